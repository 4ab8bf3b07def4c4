/- ImageWrites: the law's contract. -/
import Derived.Test.YtcjmkbmeiefojaaE3
import Derived.Test.YtcjmkbmeiefojaaSame
namespace Stk
open Go
set_option maxRecDepth 100000
set_option linter.unusedSimpArgs false
set_option linter.unusedVariables false
set_option maxHeartbeats 4000000
def AllU (L : List Tr) : Prop := ∀ y ∈ L, ∃ v, y = u8 v
theorem AllU.get {L : List Tr} (h : AllU L) {i : Nat} (hi : i < L.length) : ∃ v, L[i]? = some (u8 v) := by
  obtain ⟨v, e⟩ := h _ (List.getElem_mem hi)
  exact ⟨v, by rw [List.getElem?_eq_getElem hi, e]⟩
theorem AllU.set {L : List Tr} (h : AllU L) (i : Nat) (v : Int) : AllU (L.set i (u8 v)) := fun y hy => by
  rcases List.mem_or_eq_of_mem_set hy with hy | rfl
  · exact h y hy
  · exact ⟨v, rfl⟩
theorem AllU.append {L M : List Tr} (h : AllU L) (h' : AllU M) : AllU (L ++ M) := fun y hy => (List.mem_append.1 hy).elim (h y) (h' y)
theorem mb_u (y : Tr) : AllU (mb y) := by
  intro z hz
  unfold mb at hz
  split at hz
  · simp at hz; rcases hz with rfl | rfl | rfl | rfl <;> exact ⟨_, rfl⟩
  · cases hz
theorem eb_u (o d s f m : Int) : AllU (eb o d s f m) := by
  intro z hz
  simp [eb] at hz; rcases hz with rfl | rfl | rfl | rfl | rfl | rfl | rfl | rfl <;> exact ⟨_, rfl⟩
theorem ib_u (y : Tr) : AllU (ib y) := by
  intro z hz
  unfold ib at hz
  split at hz
  · exact eb_u _ _ _ _ _ z hz
  · cases hz
theorem flat_u {A : List Tr} {f : Tr → List Tr} (h : ∀ y, AllU (f y)) : AllU (A.flatMap f) := fun z hz => by
  obtain ⟨y, _, h2⟩ := List.mem_flatMap.1 hz
  exact h y z h2
theorem pre_u (x : Im) (i : Nat) : AllU (x.pre i) := fun z hz => by
  rcases List.mem_cons.1 hz with rfl | hz
  · exact ⟨_, rfl⟩
  · exact flat_u mb_u z hz
theorem all_u (x : Im) (i : Nat) : AllU (x.all i) := by
  unfold Im.all Im.hd
  refine ((pre_u x _).append ?_).append (flat_u ib_u)
  intro z hz
  simp at hz
  rcases hz with rfl | rfl <;> exact ⟨_, rfl⟩
theorem enc_u (x : Im) : AllU x.enc.1 := by
  unfold Im.enc
  split
  · intro y hy; cases hy
  · split
    · intro y hy; cases hy
    · split
      · intro y hy; cases hy
      · exact all_u x _
theorem enc_len {x : Im} (hx : x.OK) : x.enc.1.length ≤ 5000 := by
  unfold Im.enc
  split
  · simp
  · split
    · simp
    · split
      · simp
      · rename_i h _ _
        show (x.all x.B.length).length ≤ 5000
        rw [all_len hx.a hx.b _ (Nat.le_refl _)]
        omega
structure SbSt (L M : List Tr) where
  i : Nat
  im : i ≤ L.length
  e : L.take i = M.take i
theorem k_sameB (L M : List Tr) (hL : AllU L) (hM : AllU M) (hl : L.length ≤ 2 ^ 48) : ACalls PP GG F.law16_same [.bz 1 L, .bz 1 M] [] fun r H' => (∃ q, r = tb q ∧ (q = true ↔ L = M)) ∧ H' = [] := by
  refine K.law16_same.callsQ rfl ?_
  (conv => arg 3; whnf); repeat (first | ((with_reducible refine sat_brT ?_ ?_); rfl; conv => arg 3; whnf) | ((with_reducible refine sat_brF ?_ ?_); rfl; conv => arg 3; whnf) | ((with_reducible refine sat_eqv ?_ ?_); rfl; conv => arg 3; whnf))
  refine sat_br (fun h => ?_) (fun h => ?_)
  · have h : ¬ L.length = M.length := by have := h; simp at this; omega
    (conv => arg 3; whnf); repeat (first | ((with_reducible refine sat_brT ?_ ?_); rfl; conv => arg 3; whnf) | ((with_reducible refine sat_brF ?_ ?_); rfl; conv => arg 3; whnf) | ((with_reducible refine sat_eqv ?_ ?_); rfl; conv => arg 3; whnf))
    exact sat_ret ⟨⟨false, rfl, by simp; intro e; exact h (by rw [e])⟩, rfl⟩
  have h : L.length = M.length := by have := h; simp at this; omega
  (conv => arg 3; whnf); repeat (first | ((with_reducible refine sat_brT ?_ ?_); rfl; conv => arg 3; whnf) | ((with_reducible refine sat_brF ?_ ?_); rfl; conv => arg 3; whnf) | ((with_reducible refine sat_eqv ?_ ?_); rfl; conv => arg 3; whnf))
  refine sat_loopOf mkX_ops (σ := SbSt L M) (fun s => [(0, .bz 1 L), (1, .bz 1 M), (5, ti s.i)]) (fun s => []) (fun s => L.length - s.i)
    (fun ex fr' H' => H' = [] ∧ ((ex = .exit 0 ∧ fr' = [(4, .undef)] ∧ L = M) ∨ (ex = .ret ∧ fr' = [(4, tb false)] ∧ L ≠ M))) ⟨0, Nat.zero_le _, rfl⟩ ?_ ?_
  · rintro ⟨i, im, e⟩
    dsimp only
    refine sat_br (fun hi => ?_) (fun hi => ?_)
    · have hi : i < L.length := by have := of_decide_eq_true hi; omega
      obtain ⟨a, ha⟩ := hL.get hi
      obtain ⟨b, hb⟩ := hM.get (show i < M.length by omega)
      (conv => arg 3; whnf); repeat (first | ((with_reducible refine sat_brT ?_ ?_); rfl; conv => arg 3; whnf) | ((with_reducible refine sat_brF ?_ ?_); rfl; conv => arg 3; whnf) | ((with_reducible refine sat_eqv ?_ ?_); rfl; conv => arg 3; whnf))
      refine sat_idx (u8 a) (by simp) (by simpa using ha) ?_
      (conv => arg 3; whnf); repeat (first | ((with_reducible refine sat_brT ?_ ?_); rfl; conv => arg 3; whnf) | ((with_reducible refine sat_brF ?_ ?_); rfl; conv => arg 3; whnf) | ((with_reducible refine sat_eqv ?_ ?_); rfl; conv => arg 3; whnf))
      refine sat_idx (u8 b) (by simp) (by simpa using hb) ?_
      (conv => arg 3; whnf); repeat (first | ((with_reducible refine sat_brT ?_ ?_); rfl; conv => arg 3; whnf) | ((with_reducible refine sat_brF ?_ ?_); rfl; conv => arg 3; whnf) | ((with_reducible refine sat_eqv ?_ ?_); rfl; conv => arg 3; whnf))
      refine sat_br (fun hq => ?_) (fun hq => ?_)
      · have hq : ¬ a = b := by simpa using hq
        (conv => arg 3; whnf); repeat (first | ((with_reducible refine sat_brT ?_ ?_); rfl; conv => arg 3; whnf) | ((with_reducible refine sat_brF ?_ ?_); rfl; conv => arg 3; whnf) | ((with_reducible refine sat_eqv ?_ ?_); rfl; conv => arg 3; whnf))
        refine sat_ret ⟨rfl, .inr ⟨rfl, rfl, fun hh => hq ?_⟩⟩
        rw [hh, hb] at ha
        cases ha; rfl
      · have hq : a = b := by simpa using hq
        subst hq
        (conv => arg 3; whnf); repeat (first | ((with_reducible refine sat_brT ?_ ?_); rfl; conv => arg 3; whnf) | ((with_reducible refine sat_brF ?_ ?_); rfl; conv => arg 3; whnf) | ((with_reducible refine sat_eqv ?_ ?_); rfl; conv => arg 3; whnf))
        refine sat_rng (wrap64 (by omega) (by omega)) ?_
        exact sat_ret ⟨⟨i + 1, hi, by rw [List.take_add_one, List.take_add_one, e, ha, hb]⟩, rfl, rfl, by show L.length - (i + 1) < L.length - i; omega⟩
    · have hi : ¬ i < L.length := by have := of_decide_eq_false hi; omega
      rw [List.take_of_length_le (by omega), List.take_of_length_le (by omega)] at e
      (conv => arg 3; whnf); repeat (first | ((with_reducible refine sat_brT ?_ ?_); rfl; conv => arg 3; whnf) | ((with_reducible refine sat_brF ?_ ?_); rfl; conv => arg 3; whnf) | ((with_reducible refine sat_eqv ?_ ?_); rfl; conv => arg 3; whnf))
      exact sat_ret ⟨rfl, .inl ⟨rfl, rfl, e⟩⟩
  · rintro ex fr' H' ⟨rfl, (⟨rfl, rfl, hq⟩ | ⟨rfl, rfl, hq⟩)⟩
    · (conv => arg 3; whnf); repeat (first | ((with_reducible refine sat_brT ?_ ?_); rfl; conv => arg 3; whnf) | ((with_reducible refine sat_brF ?_ ?_); rfl; conv => arg 3; whnf) | ((with_reducible refine sat_eqv ?_ ?_); rfl; conv => arg 3; whnf))
      exact sat_ret ⟨⟨true, rfl, by simp [hq]⟩, rfl⟩
    · (conv => arg 3; whnf); repeat (first | ((with_reducible refine sat_brT ?_ ?_); rfl; conv => arg 3; whnf) | ((with_reducible refine sat_brF ?_ ?_); rfl; conv => arg 3; whnf) | ((with_reducible refine sat_eqv ?_ ?_); rfl; conv => arg 3; whnf))
      exact sat_ret ⟨⟨false, rfl, by simp [hq]⟩, rfl⟩
structure TnSt where
  i : Nat
  im : i ≤ 2
structure WrSt (n : Nat) where
  i : Nat
  xs : List Tr
  l : xs.length = n
  b : AllU xs
abbrev WH (x : Im) : Hp := [.var (.t x.t), .var (.agg [.sl 2 0 [] 0 x.A.length none, .sl 3 0 [] 0 x.B.length none]), .row 4 x.A, .row 5 x.B]
theorem l_writes (x0 : Tr) (h0 : TrD ImD x0) : ACalls PP GG F.law16_ImageWrites (toAVs [x0]) [] fun r _ => r = .t (.bool true) := by
  obtain ⟨x, rfl, hx⟩ := im_of h0
  refine K.law16_ImageWrites.calls rfl ?_
  (conv => arg 3; whnf); repeat (first | ((with_reducible refine sat_brT ?_ ?_); rfl; conv => arg 3; whnf) | ((with_reducible refine sat_brF ?_ ?_); rfl; conv => arg 3; whnf) | ((with_reducible refine sat_eqv ?_ ?_); rfl; conv => arg 3; whnf))
  refine sat_call (k_large x) ?_
  rintro r H' ⟨rfl, rfl⟩
  cases hlx : Im.large x with
  | true =>
    (conv => arg 3; whnf); repeat (first | ((with_reducible refine sat_brT ?_ ?_); rfl; conv => arg 3; whnf) | ((with_reducible refine sat_brF ?_ ?_); rfl; conv => arg 3; whnf) | ((with_reducible refine sat_eqv ?_ ?_); rfl; conv => arg 3; whnf))
    refine sat_call k_wakes ?_
    rintro r H' ⟨rfl, rfl⟩
    (conv => arg 3; whnf); repeat (first | ((with_reducible refine sat_brT ?_ ?_); rfl; conv => arg 3; whnf) | ((with_reducible refine sat_brF ?_ ?_); rfl; conv => arg 3; whnf) | ((with_reducible refine sat_eqv ?_ ?_); rfl; conv => arg 3; whnf))
    exact sat_ret rfl
  | false =>
  have hll := large_no hlx
  (conv => arg 3; whnf); repeat (first | ((with_reducible refine sat_brT ?_ ?_); rfl; conv => arg 3; whnf) | ((with_reducible refine sat_brF ?_ ?_); rfl; conv => arg 3; whnf) | ((with_reducible refine sat_eqv ?_ ?_); rfl; conv => arg 3; whnf))
  refine sat_call (r_copy x hll) ?_
  rintro r H' ⟨rfl, rfl⟩
  (conv => arg 3; whnf); repeat (first | ((with_reducible refine sat_brT ?_ ?_); rfl; conv => arg 3; whnf) | ((with_reducible refine sat_brF ?_ ?_); rfl; conv => arg 3; whnf) | ((with_reducible refine sat_eqv ?_ ?_); rfl; conv => arg 3; whnf))
  refine sat_loopOf mkX_ops (σ := TnSt) (fun s => [(1, pt 0), (3, pt 1), (4, ti s.i)]) (fun s => WH x) (fun s => 2 - s.i)
    (fun ex fr' H' => ex = .exit 0 ∧ fr' = [(2, .undef)] ∧ H' = WH x) ⟨0, by omega⟩ ?_ ?_
  · rintro ⟨i, im⟩
    dsimp only
    refine sat_br (fun hi => ?_) (fun hi => ?_)
    · have hi : i < 2 := by have := of_decide_eq_true hi; omega
      (conv => arg 3; whnf); repeat (first | ((with_reducible refine sat_brT ?_ ?_); rfl; conv => arg 3; whnf) | ((with_reducible refine sat_brF ?_ ?_); rfl; conv => arg 3; whnf) | ((with_reducible refine sat_eqv ?_ ?_); rfl; conv => arg 3; whnf))
      rw [List.drop_zero, List.take_length, List.drop_zero, List.take_length]
      refine sat_call (k_encode x hx) ?_
      rintro r H' ⟨⟨c, rfl, _⟩, rfl⟩
      (conv => arg 3; whnf); repeat (first | ((with_reducible refine sat_brT ?_ ?_); rfl; conv => arg 3; whnf) | ((with_reducible refine sat_brF ?_ ?_); rfl; conv => arg 3; whnf) | ((with_reducible refine sat_eqv ?_ ?_); rfl; conv => arg 3; whnf))
      refine sat_call (r_encode x hx) ?_
      rintro r H' ⟨⟨c', rfl⟩, rfl⟩
      have heu := enc_u x
      have hel := enc_len hx
      generalize x.enc = p at heu hel ⊢
      obtain ⟨L, e⟩ := p
      dsimp only at heu hel ⊢
      (conv => arg 3; whnf); repeat (first | ((with_reducible refine sat_brT ?_ ?_); rfl; conv => arg 3; whnf) | ((with_reducible refine sat_brF ?_ ?_); rfl; conv => arg 3; whnf) | ((with_reducible refine sat_eqv ?_ ?_); rfl; conv => arg 3; whnf))
      refine sat_brF (by simp) ?_
      (conv => arg 3; whnf); repeat (first | ((with_reducible refine sat_brT ?_ ?_); rfl; conv => arg 3; whnf) | ((with_reducible refine sat_brF ?_ ?_); rfl; conv => arg 3; whnf) | ((with_reducible refine sat_eqv ?_ ?_); rfl; conv => arg 3; whnf))
      rw [List.drop_zero, List.take_length]
      refine sat_call (k_sameB L L heu heu (by omega)) ?_
      rintro r H' ⟨⟨q, rfl, hq⟩, rfl⟩
      have := hq.2 rfl
      subst this
      (conv => arg 3; whnf); repeat (first | ((with_reducible refine sat_brT ?_ ?_); rfl; conv => arg 3; whnf) | ((with_reducible refine sat_brF ?_ ?_); rfl; conv => arg 3; whnf) | ((with_reducible refine sat_eqv ?_ ?_); rfl; conv => arg 3; whnf))
      rw [List.drop_zero, List.take_length, List.drop_zero, List.take_length]
      refine sat_call (r_same x x hx hx) ?_
      rintro r H' ⟨rfl, rfl⟩
      rw [Im.eq_refl hx]
      (conv => arg 3; whnf); repeat (first | ((with_reducible refine sat_brT ?_ ?_); rfl; conv => arg 3; whnf) | ((with_reducible refine sat_brF ?_ ?_); rfl; conv => arg 3; whnf) | ((with_reducible refine sat_eqv ?_ ?_); rfl; conv => arg 3; whnf))
      refine sat_loopOf mkX_ops (σ := WrSt L.length) (fun s => [(1, pt 0), (3, pt 1), (4, ti i), (5, .sl 4 0 [] 0 L.length c), (9, ti s.i)]) (fun s => WH x ++ [.row 1 s.xs]) (fun s => L.length - s.i)
        (fun ex fr' H' => ex = .exit 2 ∧ fr' = [(1, pt 0), (3, pt 1), (4, ti i)] ∧ ∃ xs, H' = WH x ++ [.row 1 xs]) ⟨0, L, rfl, heu⟩ ?_ ?_
      · rintro ⟨k, xs, xl, xb⟩
        dsimp only
        refine sat_br (fun hk => ?_) (fun hk => ?_)
        · have hk : k < L.length := by have := of_decide_eq_true hk; omega
          obtain ⟨v, hv⟩ := xb.get (show k < xs.length by omega)
          (conv => arg 3; whnf); repeat (first | ((with_reducible refine sat_brT ?_ ?_); rfl; conv => arg 3; whnf) | ((with_reducible refine sat_brF ?_ ?_); rfl; conv => arg 3; whnf) | ((with_reducible refine sat_eqv ?_ ?_); rfl; conv => arg 3; whnf))
          refine sat_asrt (decide_eq_true (by omega)) ?_
          (conv => arg 3; whnf); repeat (first | ((with_reducible refine sat_brT ?_ ?_); rfl; conv => arg 3; whnf) | ((with_reducible refine sat_brF ?_ ?_); rfl; conv => arg 3; whnf) | ((with_reducible refine sat_eqv ?_ ?_); rfl; conv => arg 3; whnf))
          refine sat_idx (u8 v) (by simp) (by simpa using hv) ?_
          (conv => arg 3; whnf); repeat (first | ((with_reducible refine sat_brT ?_ ?_); rfl; conv => arg 3; whnf) | ((with_reducible refine sat_brF ?_ ?_); rfl; conv => arg 3; whnf) | ((with_reducible refine sat_eqv ?_ ?_); rfl; conv => arg 3; whnf))
          refine sat_rng (wrap64 (by omega) (by omega)) ?_
          exact sat_ret ⟨⟨k + 1, xs.set k (u8 119), by rw [List.length_set]; exact xl, xb.set _ _⟩, rfl, by rw [Int.toNat_natCast, Nat.zero_add]; rfl, by show L.length - (k + 1) < L.length - k; omega⟩
        · refine sat_ret ?_
          exact ⟨rfl, rfl, xs, rfl⟩
      · rintro ex fr' H' ⟨rfl, rfl, xs, rfl⟩
        (conv => arg 3; whnf); repeat (first | ((with_reducible refine sat_brT ?_ ?_); rfl; conv => arg 3; whnf) | ((with_reducible refine sat_brF ?_ ?_); rfl; conv => arg 3; whnf) | ((with_reducible refine sat_eqv ?_ ?_); rfl; conv => arg 3; whnf))
        refine sat_rng (wrap64 (by omega) (by omega)) ?_
        exact sat_ret ⟨⟨i + 1, hi⟩, rfl, rfl, by show 2 - (i + 1) < 2 - i; omega⟩
    · refine sat_ret ?_
      exact ⟨rfl, rfl, rfl⟩
  · rintro ex fr' H' ⟨rfl, rfl, rfl⟩
    (conv => arg 3; whnf); repeat (first | ((with_reducible refine sat_brT ?_ ?_); rfl; conv => arg 3; whnf) | ((with_reducible refine sat_brF ?_ ?_); rfl; conv => arg 3; whnf) | ((with_reducible refine sat_eqv ?_ ?_); rfl; conv => arg 3; whnf))
    refine sat_call k_wakes ?_
    rintro r H' ⟨rfl, rfl⟩
    (conv => arg 3; whnf); repeat (first | ((with_reducible refine sat_brT ?_ ?_); rfl; conv => arg 3; whnf) | ((with_reducible refine sat_brF ?_ ?_); rfl; conv => arg 3; whnf) | ((with_reducible refine sat_eqv ?_ ?_); rfl; conv => arg 3; whnf))
    exact sat_ret rfl
end Stk
