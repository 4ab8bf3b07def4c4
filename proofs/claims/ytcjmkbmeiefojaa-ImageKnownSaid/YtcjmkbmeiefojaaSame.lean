/- ImageSame: the law's contract. -/
import Derived.Test.YtcjmkbmeiefojaaS2
import Derived.Test.YtcjmkbmeiefojaaFw25
namespace Stk
open Go
set_option maxRecDepth 100000
set_option linter.unusedSimpArgs false
set_option linter.unusedVariables false
set_option maxHeartbeats 2000000
abbrev MapD : TyD := .st [.int .i64, .int .i64, .int .i64, .int .i64]
abbrev InsD : TyD := .st [.int .u8, .int .u8, .int .u8, .int .i16, .int .i32]
abbrev ImD : TyD := .st [.sl 4 MapD, .sl 5 InsD]
theorem im_of {x : Tr} (h : TrD ImD x) : ∃ m : Im, x = m.t ∧ m.OK := by
  obtain ⟨_, rfl, y0, _, rfl, ⟨f, A, rfl, _, h1, h2⟩, y1, _, rfl, ⟨g, B, rfl, _, h3, h4⟩, rfl⟩ := h
  have h1' : A.length * 32 ≤ 140737488351232 := h1
  have h3' : B.length * 9 ≤ 140737488351232 := h3
  refine ⟨⟨f, A, g, B⟩, rfl, ?_, ?_, by show A.length ≤ 2 ^ 47; omega, by show B.length ≤ 2 ^ 47; omega⟩
  · intro y hy
    obtain ⟨_, rfl, _, _, rfl, ⟨a, rfl, w1⟩, _, _, rfl, ⟨b, rfl, w2⟩, _, _, rfl, ⟨c, rfl, w3⟩, _, _, rfl, ⟨d, rfl, w4⟩, rfl⟩ := h2 y hy
    exact ⟨a, b, c, d, rfl, wf_i64 w1, wf_i64 w2, wf_i64 w3, wf_i64 w4⟩
  · intro y hy
    obtain ⟨_, rfl, _, _, rfl, ⟨a, rfl, w1⟩, _, _, rfl, ⟨b, rfl, w2⟩, _, _, rfl, ⟨c, rfl, w3⟩, _, _, rfl, ⟨d, rfl, w4⟩, _, _, rfl, ⟨e, rfl, w5⟩, rfl⟩ := h4 y hy
    exact ⟨a, b, c, d, e, rfl, ⟨wf_u8 w1, wf_u8 w2, wf_u8 w3, wf_i16 w4, wf_i32 w5⟩⟩
theorem eqbs_ints : ∀ {A : List Tr}, (∀ y ∈ A, y.eqb y = true) → Tr.eqbs A A = true
  | [], _ => rfl
  | x :: A, h => by
    show (x.eqb x && Tr.eqbs A A) = true
    rw [h x (by simp), eqbs_ints (fun y hy => h y (by simp [hy]))]
    rfl
theorem eqL_refl {A : List Tr} (h : ∀ y ∈ A, y.eqb y = true) : eqL A A = true := by
  unfold eqL
  rw [eqbs_ints h, decide_eq_true rfl]; rfl
theorem Im.eq_refl {x : Im} (h : x.OK) : Im.eq x x = true := by
  unfold Im.eq
  rw [eqL_refl (fun y hy => by obtain ⟨a, b, c, d, rfl, _⟩ := h.a y hy; simp [Tr.eqb, Tr.eqbs]), eqL_refl (fun y hy => by obtain ⟨a, b, c, d, e, rfl, _⟩ := h.b y hy; simp [Tr.eqb, Tr.eqbs])]
  rfl
theorem l_same (x0 x1 : Tr) (h0 : TrD ImD x0) (h1 : TrD ImD x1) : ACalls PP GG F.law16_ImageSame (toAVs [x0, x1]) [] fun r _ => r = .t (.bool true) := by
  obtain ⟨x, rfl, hx⟩ := im_of h0
  obtain ⟨y, rfl, hy⟩ := im_of h1
  refine K.law16_ImageSame.calls rfl ?_
  (conv => arg 3; whnf); repeat (first | ((with_reducible refine sat_brT ?_ ?_); rfl; conv => arg 3; whnf) | ((with_reducible refine sat_brF ?_ ?_); rfl; conv => arg 3; whnf) | ((with_reducible refine sat_eqv ?_ ?_); rfl; conv => arg 3; whnf))
  refine sat_call (k_large x) ?_
  rintro r H' ⟨rfl, rfl⟩
  cases hlx : Im.large x with
  | true =>
    (conv => arg 3; whnf); repeat (first | ((with_reducible refine sat_brT ?_ ?_); rfl; conv => arg 3; whnf) | ((with_reducible refine sat_brF ?_ ?_); rfl; conv => arg 3; whnf) | ((with_reducible refine sat_eqv ?_ ?_); rfl; conv => arg 3; whnf))
    refine sat_call k_wakes ?_
    rintro r H' ⟨rfl, rfl⟩
    (conv => arg 3; whnf); repeat (first | ((with_reducible refine sat_brT ?_ ?_); rfl; conv => arg 3; whnf) | ((with_reducible refine sat_brF ?_ ?_); rfl; conv => arg 3; whnf) | ((with_reducible refine sat_eqv ?_ ?_); rfl; conv => arg 3; whnf))
    exact sat_ret rfl
  | false =>
  (conv => arg 3; whnf); repeat (first | ((with_reducible refine sat_brT ?_ ?_); rfl; conv => arg 3; whnf) | ((with_reducible refine sat_brF ?_ ?_); rfl; conv => arg 3; whnf) | ((with_reducible refine sat_eqv ?_ ?_); rfl; conv => arg 3; whnf))
  refine sat_call (k_large y) ?_
  rintro r H' ⟨rfl, rfl⟩
  cases hl : Im.large y with
  | true =>
    (conv => arg 3; whnf); repeat (first | ((with_reducible refine sat_brT ?_ ?_); rfl; conv => arg 3; whnf) | ((with_reducible refine sat_brF ?_ ?_); rfl; conv => arg 3; whnf) | ((with_reducible refine sat_eqv ?_ ?_); rfl; conv => arg 3; whnf))
    refine sat_call k_wakes ?_
    rintro r H' ⟨rfl, rfl⟩
    (conv => arg 3; whnf); repeat (first | ((with_reducible refine sat_brT ?_ ?_); rfl; conv => arg 3; whnf) | ((with_reducible refine sat_brF ?_ ?_); rfl; conv => arg 3; whnf) | ((with_reducible refine sat_eqv ?_ ?_); rfl; conv => arg 3; whnf))
    exact sat_ret rfl
  | false =>
  (conv => arg 3; whnf); repeat (first | ((with_reducible refine sat_brT ?_ ?_); rfl; conv => arg 3; whnf) | ((with_reducible refine sat_brF ?_ ?_); rfl; conv => arg 3; whnf) | ((with_reducible refine sat_eqv ?_ ?_); rfl; conv => arg 3; whnf))
  refine sat_call (k_same x y hx hy) ?_
  rintro r H' ⟨rfl, rfl⟩
  (conv => arg 3; whnf); repeat (first | ((with_reducible refine sat_brT ?_ ?_); rfl; conv => arg 3; whnf) | ((with_reducible refine sat_brF ?_ ?_); rfl; conv => arg 3; whnf) | ((with_reducible refine sat_eqv ?_ ?_); rfl; conv => arg 3; whnf))
  refine sat_call (r_same x y hx hy) ?_
  rintro r H' ⟨rfl, rfl⟩
  generalize Im.eq x y = q
  cases q <;>
  ((conv => arg 3; whnf); repeat (first | ((with_reducible refine sat_brT ?_ ?_); rfl; conv => arg 3; whnf) | ((with_reducible refine sat_brF ?_ ?_); rfl; conv => arg 3; whnf) | ((with_reducible refine sat_eqv ?_ ?_); rfl; conv => arg 3; whnf))
   refine sat_call (r_copy x (large_no hlx)) ?_
   rintro r H' ⟨rfl, rfl⟩
   (conv => arg 3; whnf); repeat (first | ((with_reducible refine sat_brT ?_ ?_); rfl; conv => arg 3; whnf) | ((with_reducible refine sat_brF ?_ ?_); rfl; conv => arg 3; whnf) | ((with_reducible refine sat_eqv ?_ ?_); rfl; conv => arg 3; whnf))
   rw [List.drop_zero, List.take_length, List.drop_zero, List.take_length]
   refine sat_call (k_same x x hx hx) ?_
   rintro r H' ⟨rfl, rfl⟩
   rw [Im.eq_refl hx]
   (conv => arg 3; whnf); repeat (first | ((with_reducible refine sat_brT ?_ ?_); rfl; conv => arg 3; whnf) | ((with_reducible refine sat_brF ?_ ?_); rfl; conv => arg 3; whnf) | ((with_reducible refine sat_eqv ?_ ?_); rfl; conv => arg 3; whnf))
   refine sat_call k_wakes ?_
   rintro r H' ⟨rfl, rfl⟩
   (conv => arg 3; whnf); repeat (first | ((with_reducible refine sat_brT ?_ ?_); rfl; conv => arg 3; whnf) | ((with_reducible refine sat_brF ?_ ?_); rfl; conv => arg 3; whnf) | ((with_reducible refine sat_eqv ?_ ?_); rfl; conv => arg 3; whnf))
   exact sat_ret rfl)
end Stk
