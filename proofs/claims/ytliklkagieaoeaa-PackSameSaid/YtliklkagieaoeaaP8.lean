/- The document's reader: marks, counts, bytes, digests. -/
import Derived.Test.YtliklkagieaoeaaP7
namespace Stk
open Go
set_option maxRecDepth 100000
set_option linter.unusedSimpArgs false
set_option linter.unusedVariables false
set_option maxHeartbeats 4000000
theorem Rd.fixed_e (r : Rd) (k : Nat) (hr : AllB r.b) : (r.fixed k).1.e ≠ 0 → (r.fixed k).2 = 0 := by
  unfold Rd.fixed Rd.take
  split
  · intro _; rfl
  · split
    · intro _; rfl
    · rename_i h _; intro hq; exact absurd hq h
theorem r_mark (B : List Tr) (hB : AllB B) (hl : B.length ≤ 2 ^ 40) (at_ : Nat) (r : Rd) (hs : Sy B at_ r) : ACalls PP GG F.ref20_Reader_mark [pt 0] [rv B at_ r.e] fun v H' =>
    v = tb r.mark.2 ∧ ∃ at', Sy B at' r.mark.1 ∧ H' = [rv B at' r.mark.1.e] := by
  have hr : AllB r.b := by rw [← hs.eq]; exact hB.drop _
  have hfe := Rd.fixed_e r 1 hr
  refine K.ref20_Reader_mark.callsC rfl ?_
  (conv => arg 3; whnf); repeat (first | ((with_reducible refine sat_brT ?_ ?_); rfl; conv => arg 3; whnf) | ((with_reducible refine sat_brF ?_ ?_); rfl; conv => arg 3; whnf) | ((with_reducible refine sat_eqv ?_ ?_); rfl; conv => arg 3; whnf))
  refine sat_call (r_fixed B hB hl at_ r hs 1 (by omega)) ?_
  rintro v H' ⟨rfl, at', hs', rfl⟩
  unfold Rd.mark
  generalize (r.fixed 1).2 = n at *
  generalize (r.fixed 1).1 = R at *
  obtain ⟨b, e⟩ := R
  by_cases he : e = 0
  · subst he
    (conv => arg 3; whnf); repeat (first | ((with_reducible refine sat_brT ?_ ?_); rfl; conv => arg 3; whnf) | ((with_reducible refine sat_brF ?_ ?_); rfl; conv => arg 3; whnf) | ((with_reducible refine sat_eqv ?_ ?_); rfl; conv => arg 3; whnf))
    refine sat_br (fun h => ?_) (fun h => ?_)
    · have h := of_decide_eq_true h
      (conv => arg 3; whnf); repeat (first | ((with_reducible refine sat_brT ?_ ?_); rfl; conv => arg 3; whnf) | ((with_reducible refine sat_brF ?_ ?_); rfl; conv => arg 3; whnf) | ((with_reducible refine sat_eqv ?_ ?_); rfl; conv => arg 3; whnf))
      refine sat_ret ⟨?_, at', ?_, ?_⟩
      · show tb false = tb (n == 1)
        rw [show (n == 1) = false by simp only [beq_eq_false_iff_ne]; omega]
      · rw [if_pos h]; exact ⟨hs'.eq, hs'.le⟩
      · rw [if_pos h]
    · have h := of_decide_eq_false h
      (conv => arg 3; whnf); repeat (first | ((with_reducible refine sat_brT ?_ ?_); rfl; conv => arg 3; whnf) | ((with_reducible refine sat_brF ?_ ?_); rfl; conv => arg 3; whnf) | ((with_reducible refine sat_eqv ?_ ?_); rfl; conv => arg 3; whnf))
      refine sat_ret ⟨rfl, at', ?_, ?_⟩
      · rw [if_neg h]; exact ⟨hs'.eq, hs'.le⟩
      · rw [if_neg h]
  · obtain rfl := hfe he
    (conv => arg 3; whnf); repeat (first | ((with_reducible refine sat_brT ?_ ?_); rfl; conv => arg 3; whnf) | ((with_reducible refine sat_brF ?_ ?_); rfl; conv => arg 3; whnf) | ((with_reducible refine sat_eqv ?_ ?_); rfl; conv => arg 3; whnf))
    generalize hg : (e == 0) = g
    obtain rfl : g = false := by rw [← hg]; simpa using he
    (conv => arg 3; whnf); repeat (first | ((with_reducible refine sat_brT ?_ ?_); rfl; conv => arg 3; whnf) | ((with_reducible refine sat_brF ?_ ?_); rfl; conv => arg 3; whnf) | ((with_reducible refine sat_eqv ?_ ?_); rfl; conv => arg 3; whnf))
    refine sat_brF (by simpa using he) ?_
    (conv => arg 3; whnf); repeat (first | ((with_reducible refine sat_brT ?_ ?_); rfl; conv => arg 3; whnf) | ((with_reducible refine sat_brF ?_ ?_); rfl; conv => arg 3; whnf) | ((with_reducible refine sat_eqv ?_ ?_); rfl; conv => arg 3; whnf))
    rw [if_neg (by decide)]
    exact sat_ret ⟨rfl, at', ⟨hs'.eq, hs'.le⟩, rfl⟩
theorem r_count (B : List Tr) (hB : AllB B) (hl : B.length ≤ 2 ^ 40) (at_ : Nat) (r : Rd) (hs : Sy B at_ r) (most : Nat) (hm : most ≤ 65536) : ACalls PP GG F.ref20_Reader_count [pt 0, tu most] [rv B at_ r.e] fun v H' =>
    v = ti (r.count most).2 ∧ ∃ at', Sy B at' (r.count most).1 ∧ H' = [rv B at' (r.count most).1.e] := by
  have hr : AllB r.b := by rw [← hs.eq]; exact hB.drop _
  have hfe := Rd.fixed_e r 4 hr
  have hf := (Rd.fixed_b hr 4 (by omega)).2.1
  refine K.ref20_Reader_count.callsC rfl ?_
  (conv => arg 3; whnf); repeat (first | ((with_reducible refine sat_brT ?_ ?_); rfl; conv => arg 3; whnf) | ((with_reducible refine sat_brF ?_ ?_); rfl; conv => arg 3; whnf) | ((with_reducible refine sat_eqv ?_ ?_); rfl; conv => arg 3; whnf))
  refine sat_call (r_fixed B hB hl at_ r hs 4 (by omega)) ?_
  rintro v H' ⟨rfl, at', hs', rfl⟩
  unfold Rd.count
  generalize (r.fixed 4).2 = n at *
  generalize (r.fixed 4).1 = R at *
  obtain ⟨b, e⟩ := R
  by_cases he : e = 0
  · subst he
    (conv => arg 3; whnf); repeat (first | ((with_reducible refine sat_brT ?_ ?_); rfl; conv => arg 3; whnf) | ((with_reducible refine sat_brF ?_ ?_); rfl; conv => arg 3; whnf) | ((with_reducible refine sat_eqv ?_ ?_); rfl; conv => arg 3; whnf))
    refine sat_br (fun h => ?_) (fun h => ?_)
    · have h := of_decide_eq_true h
      (conv => arg 3; whnf); repeat (first | ((with_reducible refine sat_brT ?_ ?_); rfl; conv => arg 3; whnf) | ((with_reducible refine sat_brF ?_ ?_); rfl; conv => arg 3; whnf) | ((with_reducible refine sat_eqv ?_ ?_); rfl; conv => arg 3; whnf))
      rw [if_pos h]
      exact sat_ret ⟨rfl, at', ⟨hs'.eq, hs'.le⟩, rfl⟩
    · have h := of_decide_eq_false h
      (conv => arg 3; whnf); repeat (first | ((with_reducible refine sat_brT ?_ ?_); rfl; conv => arg 3; whnf) | ((with_reducible refine sat_brF ?_ ?_); rfl; conv => arg 3; whnf) | ((with_reducible refine sat_eqv ?_ ?_); rfl; conv => arg 3; whnf))
      refine sat_rng (wrap64 (by omega) (by omega)) ?_
      rw [if_neg h]
      refine sat_ret ⟨?_, at', ⟨hs'.eq, hs'.le⟩, rfl⟩
      show ti n = ti (n.toNat : Int)
      rw [Int.toNat_of_nonneg hf.1]
  · obtain rfl := hfe he
    (conv => arg 3; whnf); repeat (first | ((with_reducible refine sat_brT ?_ ?_); rfl; conv => arg 3; whnf) | ((with_reducible refine sat_brF ?_ ?_); rfl; conv => arg 3; whnf) | ((with_reducible refine sat_eqv ?_ ?_); rfl; conv => arg 3; whnf))
    generalize hg : (e == 0) = g
    obtain rfl : g = false := by rw [← hg]; simpa using he
    (conv => arg 3; whnf); repeat (first | ((with_reducible refine sat_brT ?_ ?_); rfl; conv => arg 3; whnf) | ((with_reducible refine sat_brF ?_ ?_); rfl; conv => arg 3; whnf) | ((with_reducible refine sat_eqv ?_ ?_); rfl; conv => arg 3; whnf))
    refine sat_brT (by simpa using he) ?_
    (conv => arg 3; whnf); repeat (first | ((with_reducible refine sat_brT ?_ ?_); rfl; conv => arg 3; whnf) | ((with_reducible refine sat_brF ?_ ?_); rfl; conv => arg 3; whnf) | ((with_reducible refine sat_eqv ?_ ?_); rfl; conv => arg 3; whnf))
    rw [if_neg (by omega)]
    exact sat_ret ⟨rfl, at', ⟨hs'.eq, hs'.le⟩, rfl⟩
structure ByT (L : List Tr) where
  i : Nat
  le : i ≤ L.length
theorem r_bytes (B : List Tr) (hB : AllB B) (hl : B.length ≤ 2 ^ 40) (at_ : Nat) (r : Rd) (hs : Sy B at_ r) (n : Nat) (hn : n ≤ 65536) : ACalls PP GG F.ref20_Reader_bytes [pt 0, ti n] [rv B at_ r.e] fun v H' =>
    v = .sl 1 0 [] 0 (r.take n).2.length none ∧ ∃ at', Sy B at' (r.take n).1 ∧ H' = [rv B at' (r.take n).1.e, .row 1 (r.take n).2] := by
  obtain ⟨b, e⟩ := r
  obtain ⟨h0, h2⟩ := hs
  have h1 : B.drop at_ = b := h0
  clear h0
  have hbl : b.length = B.length - at_ := by rw [← h1, List.length_drop]
  refine K.ref20_Reader_bytes.callsC rfl ?_
  by_cases he : e = 0
  · subst he
    (conv => arg 3; whnf); repeat (first | ((with_reducible refine sat_brT ?_ ?_); rfl; conv => arg 3; whnf) | ((with_reducible refine sat_brF ?_ ?_); rfl; conv => arg 3; whnf) | ((with_reducible refine sat_eqv ?_ ?_); rfl; conv => arg 3; whnf))
    refine sat_rng (wrap64 (by omega) (by omega)) ?_
    (conv => arg 3; whnf); repeat (first | ((with_reducible refine sat_brT ?_ ?_); rfl; conv => arg 3; whnf) | ((with_reducible refine sat_brF ?_ ?_); rfl; conv => arg 3; whnf) | ((with_reducible refine sat_eqv ?_ ?_); rfl; conv => arg 3; whnf))
    refine sat_br (fun h => ?_) (fun h => ?_)
    · have h := of_decide_eq_true h
      (conv => arg 3; whnf); repeat (first | ((with_reducible refine sat_brT ?_ ?_); rfl; conv => arg 3; whnf) | ((with_reducible refine sat_brF ?_ ?_); rfl; conv => arg 3; whnf) | ((with_reducible refine sat_eqv ?_ ?_); rfl; conv => arg 3; whnf))
      have ht : Rd.take ⟨b, 0⟩ n = (⟨b, 4⟩, []) := by unfold Rd.take; rw [if_neg (by simp), if_pos (by show n > b.length; omega)]
      rw [ht]
      refine sat_loopOf mkX_ops (σ := Unit) (fun x => [(0, pt 0), (1, ti n), (5, .sl 1 0 [] 0 0 none), (6, ti 0)]) (fun x => [rv B at_ 4, .row 1 []]) (fun x => 0)
        (fun ex fr' H' => H' = [rv B at_ 4, .row 1 []] ∧ ex = .exit 0 ∧ fr' = [(5, .sl 1 0 [] 0 0 none)]) () ?_ ?_
      · rintro ⟨⟩
        (conv => arg 3; whnf); repeat (first | ((with_reducible refine sat_brT ?_ ?_); rfl; conv => arg 3; whnf) | ((with_reducible refine sat_brF ?_ ?_); rfl; conv => arg 3; whnf) | ((with_reducible refine sat_eqv ?_ ?_); rfl; conv => arg 3; whnf))
        refine sat_br (fun h3 => ?_) (fun h3 => ?_)
        · (conv => arg 3; whnf); repeat (first | ((with_reducible refine sat_brT ?_ ?_); rfl; conv => arg 3; whnf) | ((with_reducible refine sat_brF ?_ ?_); rfl; conv => arg 3; whnf) | ((with_reducible refine sat_eqv ?_ ?_); rfl; conv => arg 3; whnf))
          exact sat_ret ⟨rfl, rfl, rfl⟩
        · (conv => arg 3; whnf); repeat (first | ((with_reducible refine sat_brT ?_ ?_); rfl; conv => arg 3; whnf) | ((with_reducible refine sat_brF ?_ ?_); rfl; conv => arg 3; whnf) | ((with_reducible refine sat_eqv ?_ ?_); rfl; conv => arg 3; whnf))
          exact sat_ret ⟨rfl, rfl, rfl⟩
      · rintro ex fr' H' ⟨rfl, rfl, rfl⟩
        (conv => arg 3; whnf); repeat (first | ((with_reducible refine sat_brT ?_ ?_); rfl; conv => arg 3; whnf) | ((with_reducible refine sat_brF ?_ ?_); rfl; conv => arg 3; whnf) | ((with_reducible refine sat_eqv ?_ ?_); rfl; conv => arg 3; whnf))
        exact sat_ret ⟨rfl, at_, ⟨h1, h2⟩, rfl⟩
    · have h := of_decide_eq_false h
      have ht : Rd.take ⟨b, 0⟩ n = (⟨b.drop n, 0⟩, b.take n) := by unfold Rd.take; rw [if_neg (by simp), if_neg (by show ¬ n > b.length; omega)]
      rw [ht]
      have hnb : n ≤ b.length := by omega
      have hL : AllB (b.take n) := by rw [← h1]; exact (hB.drop _).take _
      have hLl : (b.take n).length = n := by rw [List.length_take]; omega
      have hget : ∀ i, i < n → (b.take n)[i]? = B[at_ + i]? := by
        intro i hi
        rw [List.getElem?_take, if_pos hi, ← h1, List.getElem?_drop]
      generalize b.take n = L at *
      (conv => arg 3; whnf); repeat (first | ((with_reducible refine sat_brT ?_ ?_); rfl; conv => arg 3; whnf) | ((with_reducible refine sat_brF ?_ ?_); rfl; conv => arg 3; whnf) | ((with_reducible refine sat_eqv ?_ ?_); rfl; conv => arg 3; whnf))
      refine sat_loopOf mkX_ops (σ := ByT L) (fun x => [(0, pt 0), (1, ti n), (5, .sl 1 0 [] 0 (L.take x.i).length none), (6, ti x.i)]) (fun x => [rv B (at_ + x.i) 0, .row 1 (L.take x.i)]) (fun x => n - x.i)
        (fun ex fr' H' => H' = [rv B (at_ + n) 0, .row 1 L] ∧ ex = .exit 0 ∧ fr' = [(5, .sl 1 0 [] 0 L.length none)]) ⟨0, Nat.zero_le _⟩ ?_ ?_
      · rintro ⟨i, hi⟩
        dsimp only
        (conv => arg 3; whnf); repeat (first | ((with_reducible refine sat_brT ?_ ?_); rfl; conv => arg 3; whnf) | ((with_reducible refine sat_brF ?_ ?_); rfl; conv => arg 3; whnf) | ((with_reducible refine sat_eqv ?_ ?_); rfl; conv => arg 3; whnf))
        refine sat_br (fun h3 => ?_) (fun h3 => ?_)
        · have h3 := of_decide_eq_true h3
          obtain ⟨x, hx, hx0⟩ := hL.get (show i < L.length by omega)
          have hgi := hget i (by omega)
          rw [hx] at hgi
          have hti : (L.take i).length = i := by rw [List.length_take]; omega
          (conv => arg 3; whnf); repeat (first | ((with_reducible refine sat_brT ?_ ?_); rfl; conv => arg 3; whnf) | ((with_reducible refine sat_brF ?_ ?_); rfl; conv => arg 3; whnf) | ((with_reducible refine sat_eqv ?_ ?_); rfl; conv => arg 3; whnf))
          refine sat_idx (u8 x) (by omega) (by rw [Int.toNat_natCast]; exact hgi.symm) ?_
          (conv => arg 3; whnf); repeat (first | ((with_reducible refine sat_brT ?_ ?_); rfl; conv => arg 3; whnf) | ((with_reducible refine sat_brF ?_ ?_); rfl; conv => arg 3; whnf) | ((with_reducible refine sat_eqv ?_ ?_); rfl; conv => arg 3; whnf))
          refine sat_asrt (by simp) ?_
          refine sat_asrt (by simp [roomy]; omega) ?_
          refine sat_brT (by simp) ?_
          (conv => arg 3; whnf); repeat (first | ((with_reducible refine sat_brT ?_ ?_); rfl; conv => arg 3; whnf) | ((with_reducible refine sat_brF ?_ ?_); rfl; conv => arg 3; whnf) | ((with_reducible refine sat_eqv ?_ ?_); rfl; conv => arg 3; whnf))
          refine sat_rng (wrap64 (by omega) (by omega)) ?_
          (conv => arg 3; whnf); repeat (first | ((with_reducible refine sat_brT ?_ ?_); rfl; conv => arg 3; whnf) | ((with_reducible refine sat_brF ?_ ?_); rfl; conv => arg 3; whnf) | ((with_reducible refine sat_eqv ?_ ?_); rfl; conv => arg 3; whnf))
          refine sat_rng (wrap64 (by omega) (by omega)) ?_
          have e1 : L.take i ++ [u8 x] = L.take (i + 1) := (take_succ_get hx).symm
          refine sat_ret ⟨⟨i + 1, by omega⟩, ?_, ?_, by show n - (i + 1) < n - i; omega⟩
          · show [(0, pt 0), (1, ti n), (5, AV.sl 1 0 [] 0 (L.take i ++ [u8 x]).length none), (6, ti ((i : Int) + 1))] = _
            rw [e1]; rfl
          · show [AO.var (.agg [.bz 1 B, ti (((at_ + i : Nat) : Int) + 1), ti 0]), AO.row 1 (L.take i ++ [u8 x])] = _
            rw [e1]; rfl
        · have h3 := of_decide_eq_false h3
          obtain rfl : i = n := by omega
          have : L.take i = L := List.take_of_length_le (by omega)
          (conv => arg 3; whnf); repeat (first | ((with_reducible refine sat_brT ?_ ?_); rfl; conv => arg 3; whnf) | ((with_reducible refine sat_brF ?_ ?_); rfl; conv => arg 3; whnf) | ((with_reducible refine sat_eqv ?_ ?_); rfl; conv => arg 3; whnf))
          exact sat_ret ⟨by rw [this], rfl, by rw [this]; rfl⟩
      · rintro ex fr' H' ⟨rfl, rfl, rfl⟩
        (conv => arg 3; whnf); repeat (first | ((with_reducible refine sat_brT ?_ ?_); rfl; conv => arg 3; whnf) | ((with_reducible refine sat_brF ?_ ?_); rfl; conv => arg 3; whnf) | ((with_reducible refine sat_eqv ?_ ?_); rfl; conv => arg 3; whnf))
        exact sat_ret ⟨rfl, at_ + n, ⟨by rw [← List.drop_drop, h1], by omega⟩, rfl⟩
  · (conv => arg 3; whnf); repeat (first | ((with_reducible refine sat_brT ?_ ?_); rfl; conv => arg 3; whnf) | ((with_reducible refine sat_brF ?_ ?_); rfl; conv => arg 3; whnf) | ((with_reducible refine sat_eqv ?_ ?_); rfl; conv => arg 3; whnf))
    generalize hg : (e == 0) = g
    obtain rfl : g = false := by rw [← hg]; simpa using he
    (conv => arg 3; whnf); repeat (first | ((with_reducible refine sat_brT ?_ ?_); rfl; conv => arg 3; whnf) | ((with_reducible refine sat_brF ?_ ?_); rfl; conv => arg 3; whnf) | ((with_reducible refine sat_eqv ?_ ?_); rfl; conv => arg 3; whnf))
    have ht : Rd.take ⟨b, e⟩ n = (⟨b, e⟩, []) := by unfold Rd.take; rw [if_pos he]
    rw [ht]
    refine sat_loopOf mkX_ops (σ := Unit) (fun x => [(0, pt 0), (1, ti n), (5, .sl 1 0 [] 0 0 none), (6, ti 0)]) (fun x => [rv B at_ e, .row 1 []]) (fun x => 0)
      (fun ex fr' H' => H' = [rv B at_ e, .row 1 []] ∧ ex = .exit 0 ∧ fr' = [(5, .sl 1 0 [] 0 0 none)]) () ?_ ?_
    · rintro ⟨⟩
      (conv => arg 3; whnf); repeat (first | ((with_reducible refine sat_brT ?_ ?_); rfl; conv => arg 3; whnf) | ((with_reducible refine sat_brF ?_ ?_); rfl; conv => arg 3; whnf) | ((with_reducible refine sat_eqv ?_ ?_); rfl; conv => arg 3; whnf))
      refine sat_br (fun h3 => ?_) (fun h3 => ?_)
      · (conv => arg 3; whnf); repeat (first | ((with_reducible refine sat_brT ?_ ?_); rfl; conv => arg 3; whnf) | ((with_reducible refine sat_brF ?_ ?_); rfl; conv => arg 3; whnf) | ((with_reducible refine sat_eqv ?_ ?_); rfl; conv => arg 3; whnf))
        generalize hg3 : (e == 0) = g
        obtain rfl : g = false := by rw [← hg3]; simpa using he
        (conv => arg 3; whnf); repeat (first | ((with_reducible refine sat_brT ?_ ?_); rfl; conv => arg 3; whnf) | ((with_reducible refine sat_brF ?_ ?_); rfl; conv => arg 3; whnf) | ((with_reducible refine sat_eqv ?_ ?_); rfl; conv => arg 3; whnf))
        exact sat_ret ⟨rfl, rfl, rfl⟩
      · (conv => arg 3; whnf); repeat (first | ((with_reducible refine sat_brT ?_ ?_); rfl; conv => arg 3; whnf) | ((with_reducible refine sat_brF ?_ ?_); rfl; conv => arg 3; whnf) | ((with_reducible refine sat_eqv ?_ ?_); rfl; conv => arg 3; whnf))
        exact sat_ret ⟨rfl, rfl, rfl⟩
    · rintro ex fr' H' ⟨rfl, rfl, rfl⟩
      (conv => arg 3; whnf); repeat (first | ((with_reducible refine sat_brT ?_ ?_); rfl; conv => arg 3; whnf) | ((with_reducible refine sat_brF ?_ ?_); rfl; conv => arg 3; whnf) | ((with_reducible refine sat_eqv ?_ ?_); rfl; conv => arg 3; whnf))
      exact sat_ret ⟨rfl, at_, ⟨h1, h2⟩, rfl⟩
theorem set_mid {α : Type} (A : List α) (a x : α) (B : List α) (i : Nat) (h : A.length = i) : (A ++ a :: B).set i x = A ++ [x] ++ B := by
  subst h
  rw [List.set_append_right _ _ (Nat.le_refl _), Nat.sub_self]
  simp
structure HaSt (L : List Tr) where
  i : Nat
  cur : List Tr
  eq : cur = L.take i ++ z32.drop i
  le : i ≤ L.length
theorem r_hash (B : List Tr) (hB : AllB B) (hl : B.length ≤ 2 ^ 40) (at_ : Nat) (r : Rd) (hs : Sy B at_ r) : ACalls PP GG F.ref20_Reader_hash [pt 0] [rv B at_ r.e] fun v H' =>
    v = .t (.arr 32 r.hash.2) ∧ ∃ at', Sy B at' r.hash.1 ∧ H' = [rv B at' r.hash.1.e] := by
  have hr : AllB r.b := by rw [← hs.eq]; exact hB.drop _
  obtain ⟨t1, t2, t3, t4⟩ := Rd.take_b hr 32
  have tl := Rd.take_len (r := r) 32
  refine K.ref20_Reader_hash.callsC rfl ?_
  (conv => arg 3; whnf); repeat (first | ((with_reducible refine sat_brT ?_ ?_); rfl; conv => arg 3; whnf) | ((with_reducible refine sat_brF ?_ ?_); rfl; conv => arg 3; whnf) | ((with_reducible refine sat_eqv ?_ ?_); rfl; conv => arg 3; whnf))
  refine sat_call (r_bytes B hB hl at_ r hs 32 (by omega)) ?_
  unfold Rd.hash
  generalize (r.take 32).2 = L at *
  generalize (r.take 32).1 = R at *
  rintro v H' ⟨rfl, at', hs', rfl⟩
  rcases tl with rfl | hL
  · (conv => arg 3; whnf); repeat (first | ((with_reducible refine sat_brT ?_ ?_); rfl; conv => arg 3; whnf) | ((with_reducible refine sat_brF ?_ ?_); rfl; conv => arg 3; whnf) | ((with_reducible refine sat_eqv ?_ ?_); rfl; conv => arg 3; whnf))
    refine sat_loopOf mkX_ops (σ := Unit) (fun x => [(2, pt 0), (3, pt 1), (4, .sl 2 0 [] 0 0 none), (5, ti 0)]) (fun x => [.var (.t (.arr 32 z32)), .var (.t (.arr 32 z32)), .row 1 []]) (fun x => 0)
      (fun ex fr' H' => H' = [.var (.t (.arr 32 z32)), .var (.t (.arr 32 z32)), .row 1 []] ∧ ex = .exit 0 ∧ fr' = [(2, pt 0), (3, pt 1)]) () ?_ ?_
    · rintro ⟨⟩
      (conv => arg 3; whnf); repeat (first | ((with_reducible refine sat_brT ?_ ?_); rfl; conv => arg 3; whnf) | ((with_reducible refine sat_brF ?_ ?_); rfl; conv => arg 3; whnf) | ((with_reducible refine sat_eqv ?_ ?_); rfl; conv => arg 3; whnf))
      exact sat_ret ⟨rfl, rfl, rfl⟩
    · rintro ex fr' H' ⟨rfl, rfl, rfl⟩
      (conv => arg 3; whnf); repeat (first | ((with_reducible refine sat_brT ?_ ?_); rfl; conv => arg 3; whnf) | ((with_reducible refine sat_brF ?_ ?_); rfl; conv => arg 3; whnf) | ((with_reducible refine sat_eqv ?_ ?_); rfl; conv => arg 3; whnf))
      exact sat_ret ⟨rfl, at', hs', rfl⟩
  · (conv => arg 3; whnf); repeat (first | ((with_reducible refine sat_brT ?_ ?_); rfl; conv => arg 3; whnf) | ((with_reducible refine sat_brF ?_ ?_); rfl; conv => arg 3; whnf) | ((with_reducible refine sat_eqv ?_ ?_); rfl; conv => arg 3; whnf))
    refine sat_loopOf mkX_ops (σ := HaSt L) (fun x => [(2, pt 0), (3, pt 1), (4, .sl 2 0 [] 0 L.length none), (5, ti x.i)]) (fun x => [.var (.t (.arr 32 z32)), .var (.t (.arr 32 x.cur)), .row 1 L]) (fun x => L.length - x.i)
      (fun ex fr' H' => H' = [.var (.t (.arr 32 z32)), .var (.t (.arr 32 L)), .row 1 L] ∧ ex = .exit 0 ∧ fr' = [(2, pt 0), (3, pt 1)]) ⟨0, z32, rfl, Nat.zero_le _⟩ ?_ ?_
    · rintro ⟨i, cur, hcur, hi⟩
      have hcl : cur.length = 32 := by rw [hcur, List.length_append, List.length_take, List.length_drop]; simp [z32]; omega
      dsimp only
      (conv => arg 3; whnf); repeat (first | ((with_reducible refine sat_brT ?_ ?_); rfl; conv => arg 3; whnf) | ((with_reducible refine sat_brF ?_ ?_); rfl; conv => arg 3; whnf) | ((with_reducible refine sat_eqv ?_ ?_); rfl; conv => arg 3; whnf))
      refine sat_br (fun h3 => ?_) (fun h3 => ?_)
      · have h3 := of_decide_eq_true h3
        obtain ⟨x, hx, hx0⟩ := t2.get (show i < L.length by omega)
        (conv => arg 3; whnf); repeat (first | ((with_reducible refine sat_brT ?_ ?_); rfl; conv => arg 3; whnf) | ((with_reducible refine sat_brF ?_ ?_); rfl; conv => arg 3; whnf) | ((with_reducible refine sat_eqv ?_ ?_); rfl; conv => arg 3; whnf))
        refine sat_brT (by simp; omega) ?_
        (conv => arg 3; whnf); repeat (first | ((with_reducible refine sat_brT ?_ ?_); rfl; conv => arg 3; whnf) | ((with_reducible refine sat_brF ?_ ?_); rfl; conv => arg 3; whnf) | ((with_reducible refine sat_eqv ?_ ?_); rfl; conv => arg 3; whnf))
        refine sat_asrt (by simp; omega) ?_
        (conv => arg 3; whnf); repeat (first | ((with_reducible refine sat_brT ?_ ?_); rfl; conv => arg 3; whnf) | ((with_reducible refine sat_brF ?_ ?_); rfl; conv => arg 3; whnf) | ((with_reducible refine sat_eqv ?_ ?_); rfl; conv => arg 3; whnf))
        refine sat_idx (u8 x) (by omega) (by rw [show (((0 + (i : Int).toNat : Nat) : Int)).toNat = i by omega]; exact hx) ?_
        (conv => arg 3; whnf); repeat (first | ((with_reducible refine sat_brT ?_ ?_); rfl; conv => arg 3; whnf) | ((with_reducible refine sat_brF ?_ ?_); rfl; conv => arg 3; whnf) | ((with_reducible refine sat_eqv ?_ ?_); rfl; conv => arg 3; whnf))
        refine sat_asrt (by simp; omega) ?_
        (conv => arg 3; whnf); repeat (first | ((with_reducible refine sat_brT ?_ ?_); rfl; conv => arg 3; whnf) | ((with_reducible refine sat_brF ?_ ?_); rfl; conv => arg 3; whnf) | ((with_reducible refine sat_eqv ?_ ?_); rfl; conv => arg 3; whnf))
        have hzd : z32.drop i = u8 0 :: z32.drop (i + 1) := by
          have hzl : z32.length = 32 := by simp [z32]
          rw [List.drop_eq_getElem_cons (show i < z32.length by omega)]
          congr 1
          exact List.getElem_replicate ..
        have hset : cur.set (i : Int).toNat (u8 x) = L.take (i + 1) ++ z32.drop (i + 1) := by
          rw [hcur, hzd, Int.toNat_natCast, set_mid _ _ _ _ _ (by rw [List.length_take]; omega), take_succ_get hx]
        refine sat_asrt (by simp; omega) ?_
        (conv => arg 3; whnf); repeat (first | ((with_reducible refine sat_brT ?_ ?_); rfl; conv => arg 3; whnf) | ((with_reducible refine sat_brF ?_ ?_); rfl; conv => arg 3; whnf) | ((with_reducible refine sat_eqv ?_ ?_); rfl; conv => arg 3; whnf))
        refine sat_rng (wrap64 (by omega) (by omega)) ?_
        exact sat_ret ⟨⟨i + 1, _, hset, by omega⟩, rfl, rfl, by show L.length - (i + 1) < L.length - i; omega⟩
      · have h3 := of_decide_eq_false h3
        obtain rfl : i = L.length := by omega
        have : cur = L := by rw [hcur, List.take_length, List.drop_of_length_le (by simp [z32]; omega), List.append_nil]
        (conv => arg 3; whnf); repeat (first | ((with_reducible refine sat_brT ?_ ?_); rfl; conv => arg 3; whnf) | ((with_reducible refine sat_brF ?_ ?_); rfl; conv => arg 3; whnf) | ((with_reducible refine sat_eqv ?_ ?_); rfl; conv => arg 3; whnf))
        exact sat_ret ⟨by rw [this], rfl, rfl⟩
    · rintro ex fr' H' ⟨rfl, rfl, rfl⟩
      (conv => arg 3; whnf); repeat (first | ((with_reducible refine sat_brT ?_ ?_); rfl; conv => arg 3; whnf) | ((with_reducible refine sat_brF ?_ ?_); rfl; conv => arg 3; whnf) | ((with_reducible refine sat_eqv ?_ ?_); rfl; conv => arg 3; whnf))
      rw [if_pos hL]
      exact sat_ret ⟨rfl, at', hs', rfl⟩
end Stk
