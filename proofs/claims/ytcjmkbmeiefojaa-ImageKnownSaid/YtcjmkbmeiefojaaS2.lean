/- The same images; a copy; a large image. -/
import Derived.Test.YtcjmkbmeiefojaaS1
namespace Stk
open Go
set_option maxRecDepth 100000
set_option linter.unusedSimpArgs false
set_option linter.unusedVariables false
set_option maxHeartbeats 2000000
structure Im where
  f : Bool
  A : List Tr
  g : Bool
  B : List Tr
abbrev Im.t (x : Im) : Tr := .agg [.sl x.f 4 x.A, .sl x.g 5 x.B]
abbrev Im.b (x : Im) : AV := .agg [.bz 4 x.A, .bz 5 x.B]
structure Im.OK (x : Im) : Prop where
  a : AllM x.A
  b : AllC x.B
  al : x.A.length ≤ 2 ^ 47
  bl : x.B.length ≤ 2 ^ 47
def Im.eq (x y : Im) : Bool := eqL x.A y.A && eqL x.B y.B
def Im.large (x : Im) : Bool := decide (x.A.length > 100) || decide (x.B.length > 2000)
theorem k_same (x y : Im) (hx : x.OK) (hy : y.OK) : ACalls PP GG F.image_Same [x.b, y.b] [] fun r H' => r = tb (Im.eq x y) ∧ H' = [] := by
  have := hx.al
  have := hx.bl
  refine K.image_Same.callsC rfl ?_
  (conv => arg 3; whnf); repeat (first | ((with_reducible refine sat_brT ?_ ?_); rfl; conv => arg 3; whnf) | ((with_reducible refine sat_brF ?_ ?_); rfl; conv => arg 3; whnf) | ((with_reducible refine sat_eqv ?_ ?_); rfl; conv => arg 3; whnf))
  refine sat_call (k_eqMap x.A y.A hx.a hy.a (by omega)) ?_
  rintro r H' ⟨rfl, rfl⟩
  unfold Im.eq
  cases eqL x.A y.A with
  | false =>
    (conv => arg 3; whnf); repeat (first | ((with_reducible refine sat_brT ?_ ?_); rfl; conv => arg 3; whnf) | ((with_reducible refine sat_brF ?_ ?_); rfl; conv => arg 3; whnf) | ((with_reducible refine sat_eqv ?_ ?_); rfl; conv => arg 3; whnf))
    exact sat_ret ⟨rfl, rfl⟩
  | true =>
    (conv => arg 3; whnf); repeat (first | ((with_reducible refine sat_brT ?_ ?_); rfl; conv => arg 3; whnf) | ((with_reducible refine sat_brF ?_ ?_); rfl; conv => arg 3; whnf) | ((with_reducible refine sat_eqv ?_ ?_); rfl; conv => arg 3; whnf))
    refine sat_call (k_eqInsn x.B y.B hx.b hy.b (by omega)) ?_
    rintro r H' ⟨rfl, rfl⟩
    rw [Bool.true_and]
    (conv => arg 3; whnf); repeat (first | ((with_reducible refine sat_brT ?_ ?_); rfl; conv => arg 3; whnf) | ((with_reducible refine sat_brF ?_ ?_); rfl; conv => arg 3; whnf) | ((with_reducible refine sat_eqv ?_ ?_); rfl; conv => arg 3; whnf))
    exact sat_ret ⟨rfl, rfl⟩
theorem k_large (x : Im) : ACalls PP GG F.law16_large [x.b] [] fun r H' => r = tb (Im.large x) ∧ H' = [] := by
  refine K.law16_large.callsC rfl ?_
  (conv => arg 3; whnf); repeat (first | ((with_reducible refine sat_brT ?_ ?_); rfl; conv => arg 3; whnf) | ((with_reducible refine sat_brF ?_ ?_); rfl; conv => arg 3; whnf) | ((with_reducible refine sat_eqv ?_ ?_); rfl; conv => arg 3; whnf))
  unfold Im.large
  refine sat_br (fun h => ?_) (fun h => ?_)
  · have h : decide (x.A.length > 100) = true := by have := of_decide_eq_true h; exact decide_eq_true (by omega)
    rw [h, Bool.true_or]
    (conv => arg 3; whnf); repeat (first | ((with_reducible refine sat_brT ?_ ?_); rfl; conv => arg 3; whnf) | ((with_reducible refine sat_brF ?_ ?_); rfl; conv => arg 3; whnf) | ((with_reducible refine sat_eqv ?_ ?_); rfl; conv => arg 3; whnf))
    exact sat_ret ⟨rfl, rfl⟩
  · have h : decide (x.A.length > 100) = false := by have := of_decide_eq_false h; exact decide_eq_false (by omega)
    rw [h, Bool.false_or]
    (conv => arg 3; whnf); repeat (first | ((with_reducible refine sat_brT ?_ ?_); rfl; conv => arg 3; whnf) | ((with_reducible refine sat_brF ?_ ?_); rfl; conv => arg 3; whnf) | ((with_reducible refine sat_eqv ?_ ?_); rfl; conv => arg 3; whnf))
    refine sat_ret ⟨?_, rfl⟩
    rw [show decide ((x.B.length : Int) > 2000) = decide (x.B.length > 2000) from decide_eq_decide.2 (by omega)]
theorem large_no {x : Im} (h : x.large = false) : x.A.length ≤ 100 ∧ x.B.length ≤ 2000 := by
  unfold Im.large at h
  rw [Bool.or_eq_false_iff] at h
  have h1 := of_decide_eq_false h.1
  have h2 := of_decide_eq_false h.2
  omega
theorem r_copy (x : Im) (hl : x.A.length ≤ 100 ∧ x.B.length ≤ 2000) : ACalls PP GG F.ref16_Copy [x.b] [] fun r H' => r = .agg [.sl 0 0 [] 0 x.A.length none, .sl 1 0 [] 0 x.B.length none] ∧ H' = [.row 4 x.A, .row 5 x.B] := by
  refine K.ref16_Copy.callsC rfl ?_
  (conv => arg 3; whnf); repeat (first | ((with_reducible refine sat_brT ?_ ?_); rfl; conv => arg 3; whnf) | ((with_reducible refine sat_brF ?_ ?_); rfl; conv => arg 3; whnf) | ((with_reducible refine sat_eqv ?_ ?_); rfl; conv => arg 3; whnf))
  refine sat_asrt (by simp [roomy]; omega) ?_
  (conv => arg 3; whnf); repeat (first | ((with_reducible refine sat_brT ?_ ?_); rfl; conv => arg 3; whnf) | ((with_reducible refine sat_brF ?_ ?_); rfl; conv => arg 3; whnf) | ((with_reducible refine sat_eqv ?_ ?_); rfl; conv => arg 3; whnf))
  refine sat_asrt (by simp [roomy]; omega) ?_
  (conv => arg 3; whnf); repeat (first | ((with_reducible refine sat_brT ?_ ?_); rfl; conv => arg 3; whnf) | ((with_reducible refine sat_brF ?_ ?_); rfl; conv => arg 3; whnf) | ((with_reducible refine sat_eqv ?_ ?_); rfl; conv => arg 3; whnf))
  exact sat_ret ⟨rfl, rfl⟩

abbrev pt (b : Nat) : AV := .ptr b 0 0 [] none
theorem r_same (x y : Im) (hx : x.OK) (hy : y.OK) : ACalls PP GG F.ref16_Same [x.b, y.b] [] fun r H' => r = tb (Im.eq x y) ∧ H' = [] := by
  have := hx.al
  have := hx.bl
  refine K.ref16_Same.callsC rfl ?_
  (conv => arg 3; whnf); repeat (first | ((with_reducible refine sat_brT ?_ ?_); rfl; conv => arg 3; whnf) | ((with_reducible refine sat_brF ?_ ?_); rfl; conv => arg 3; whnf) | ((with_reducible refine sat_eqv ?_ ?_); rfl; conv => arg 3; whnf))
  refine sat_br (fun h => ?_) (fun h => ?_)
  · have h : ¬ x.A.length = y.A.length := by have := h; simp at this; omega
    (conv => arg 3; whnf); repeat (first | ((with_reducible refine sat_brT ?_ ?_); rfl; conv => arg 3; whnf) | ((with_reducible refine sat_brF ?_ ?_); rfl; conv => arg 3; whnf) | ((with_reducible refine sat_eqv ?_ ?_); rfl; conv => arg 3; whnf))
    refine sat_ret ⟨?_, rfl⟩
    rw [show Im.eq x y = false by unfold Im.eq eqL; rw [decide_eq_false h]; rfl]
  have ha : x.A.length = y.A.length := by have := h; simp at this; omega
  (conv => arg 3; whnf); repeat (first | ((with_reducible refine sat_brT ?_ ?_); rfl; conv => arg 3; whnf) | ((with_reducible refine sat_brF ?_ ?_); rfl; conv => arg 3; whnf) | ((with_reducible refine sat_eqv ?_ ?_); rfl; conv => arg 3; whnf))
  refine sat_br (fun h => ?_) (fun h => ?_)
  · have h : ¬ x.B.length = y.B.length := by have := h; simp at this; omega
    (conv => arg 3; whnf); repeat (first | ((with_reducible refine sat_brT ?_ ?_); rfl; conv => arg 3; whnf) | ((with_reducible refine sat_brF ?_ ?_); rfl; conv => arg 3; whnf) | ((with_reducible refine sat_eqv ?_ ?_); rfl; conv => arg 3; whnf))
    refine sat_ret ⟨?_, rfl⟩
    rw [show Im.eq x y = false by unfold Im.eq eqL; rw [decide_eq_false h, Bool.false_and, Bool.and_false]]
  have hb : x.B.length = y.B.length := by have := h; simp at this; omega
  have hq : Im.eq x y = (Tr.eqbs x.A y.A && Tr.eqbs x.B y.B) := by unfold Im.eq eqL; rw [decide_eq_true ha, decide_eq_true hb, Bool.true_and, Bool.true_and]
  rw [hq]
  (conv => arg 3; whnf); repeat (first | ((with_reducible refine sat_brT ?_ ?_); rfl; conv => arg 3; whnf) | ((with_reducible refine sat_brF ?_ ?_); rfl; conv => arg 3; whnf) | ((with_reducible refine sat_eqv ?_ ?_); rfl; conv => arg 3; whnf))
  refine sat_loopOf mkX_ops (σ := EqSt x.A y.A) (fun s => [(2, pt 0), (3, pt 1), (5, ti s.i)]) (fun s => [.var x.b, .var y.b]) (fun s => x.A.length - s.i)
    (fun ex fr' H' => H' = [.var x.b, .var y.b] ∧ ((ex = .exit 0 ∧ fr' = [(2, pt 0), (3, pt 1), (4, .undef)] ∧ Tr.eqbs x.A y.A = true) ∨ (ex = .ret ∧ fr' = [(2, pt 0), (3, pt 1), (4, tb false)] ∧ Tr.eqbs x.A y.A = false))) ⟨0, Nat.zero_le _, rfl⟩ ?_ ?_
  · rintro ⟨i, im, e⟩
    dsimp only
    refine sat_br (fun hi => ?_) (fun hi => ?_)
    · have hi : i < x.A.length := by have := of_decide_eq_true hi; omega
      obtain ⟨x1, x2, x3, x4, hx1, _⟩ := hx.a.get hi
      obtain ⟨y1, y2, y3, y4, hy1, _⟩ := hy.a.get (show i < y.A.length by omega)
      rw [eqbs_drop hx1 hy1] at e
      (conv => arg 3; whnf); repeat (first | ((with_reducible refine sat_brT ?_ ?_); rfl; conv => arg 3; whnf) | ((with_reducible refine sat_brF ?_ ?_); rfl; conv => arg 3; whnf) | ((with_reducible refine sat_eqv ?_ ?_); rfl; conv => arg 3; whnf))
      refine sat_idx (mapT x1 x2 x3 x4) (by simp) (by simpa using hx1) ?_
      (conv => arg 3; whnf); repeat (first | ((with_reducible refine sat_brT ?_ ?_); rfl; conv => arg 3; whnf) | ((with_reducible refine sat_brF ?_ ?_); rfl; conv => arg 3; whnf) | ((with_reducible refine sat_eqv ?_ ?_); rfl; conv => arg 3; whnf))
      refine sat_idx (mapT y1 y2 y3 y4) (by simp) (by simpa using hy1) ?_
      (conv => arg 3; whnf); repeat (first | ((with_reducible refine sat_brT ?_ ?_); rfl; conv => arg 3; whnf) | ((with_reducible refine sat_brF ?_ ?_); rfl; conv => arg 3; whnf) | ((with_reducible refine sat_eqv ?_ ?_); rfl; conv => arg 3; whnf))
      refine sat_asrt rfl ?_
      (conv => arg 3; whnf); repeat (first | ((with_reducible refine sat_brT ?_ ?_); rfl; conv => arg 3; whnf) | ((with_reducible refine sat_brF ?_ ?_); rfl; conv => arg 3; whnf) | ((with_reducible refine sat_eqv ?_ ?_); rfl; conv => arg 3; whnf))
      refine sat_br (fun hq => ?_) (fun hq => ?_)
      · have hq : (mapT x1 x2 x3 x4).eqb (mapT y1 y2 y3 y4) = false := by cases hxy : (mapT x1 x2 x3 x4).eqb (mapT y1 y2 y3 y4) with | true => rw [hxy] at hq; cases hq | false => rfl
        rw [hq] at e
        (conv => arg 3; whnf); repeat (first | ((with_reducible refine sat_brT ?_ ?_); rfl; conv => arg 3; whnf) | ((with_reducible refine sat_brF ?_ ?_); rfl; conv => arg 3; whnf) | ((with_reducible refine sat_eqv ?_ ?_); rfl; conv => arg 3; whnf))
        refine sat_ret ⟨rfl, .inr ⟨rfl, rfl, e.symm⟩⟩
      · have hq : (mapT x1 x2 x3 x4).eqb (mapT y1 y2 y3 y4) = true := by cases hxy : (mapT x1 x2 x3 x4).eqb (mapT y1 y2 y3 y4) with | true => rfl | false => rw [hxy] at hq; cases hq
        rw [hq, Bool.true_and] at e
        (conv => arg 3; whnf); repeat (first | ((with_reducible refine sat_brT ?_ ?_); rfl; conv => arg 3; whnf) | ((with_reducible refine sat_brF ?_ ?_); rfl; conv => arg 3; whnf) | ((with_reducible refine sat_eqv ?_ ?_); rfl; conv => arg 3; whnf))
        refine sat_rng (wrap64 (by omega) (by omega)) ?_
        exact sat_ret ⟨⟨i + 1, hi, e⟩, rfl, rfl, by show x.A.length - (i + 1) < x.A.length - i; omega⟩
    · have hi : ¬ i < x.A.length := by have := of_decide_eq_false hi; omega
      rw [List.drop_eq_nil_of_le (by omega), List.drop_eq_nil_of_le (by omega)] at e
      (conv => arg 3; whnf); repeat (first | ((with_reducible refine sat_brT ?_ ?_); rfl; conv => arg 3; whnf) | ((with_reducible refine sat_brF ?_ ?_); rfl; conv => arg 3; whnf) | ((with_reducible refine sat_eqv ?_ ?_); rfl; conv => arg 3; whnf))
      refine sat_ret ⟨rfl, .inl ⟨rfl, rfl, e.symm⟩⟩
  · rintro ex fr' H' ⟨rfl, (⟨rfl, rfl, hq⟩ | ⟨rfl, rfl, hq⟩)⟩
    rotate_left
    · rw [hq]
      (conv => arg 3; whnf); repeat (first | ((with_reducible refine sat_brT ?_ ?_); rfl; conv => arg 3; whnf) | ((with_reducible refine sat_brF ?_ ?_); rfl; conv => arg 3; whnf) | ((with_reducible refine sat_eqv ?_ ?_); rfl; conv => arg 3; whnf))
      exact sat_ret ⟨rfl, rfl⟩
    rw [hq, Bool.true_and]
    (conv => arg 3; whnf); repeat (first | ((with_reducible refine sat_brT ?_ ?_); rfl; conv => arg 3; whnf) | ((with_reducible refine sat_brF ?_ ?_); rfl; conv => arg 3; whnf) | ((with_reducible refine sat_eqv ?_ ?_); rfl; conv => arg 3; whnf))
    refine sat_loopOf mkX_ops (σ := EqSt x.B y.B) (fun s => [(2, pt 0), (3, pt 1), (6, ti s.i)]) (fun s => [.var x.b, .var y.b]) (fun s => x.B.length - s.i)
      (fun ex fr' H' => H' = [.var x.b, .var y.b] ∧ ((ex = .exit 2 ∧ fr' = [(4, .undef)] ∧ Tr.eqbs x.B y.B = true) ∨ (ex = .ret ∧ fr' = [(4, tb false)] ∧ Tr.eqbs x.B y.B = false))) ⟨0, Nat.zero_le _, rfl⟩ ?_ ?_
    · rintro ⟨i, im, e⟩
      dsimp only
      refine sat_br (fun hi => ?_) (fun hi => ?_)
      · have hi : i < x.B.length := by have := of_decide_eq_true hi; omega
        obtain ⟨x1, x2, x3, x4, x5, hx1, _⟩ := hx.b.get hi
        obtain ⟨y1, y2, y3, y4, y5, hy1, _⟩ := hy.b.get (show i < y.B.length by omega)
        rw [eqbs_drop hx1 hy1] at e
        (conv => arg 3; whnf); repeat (first | ((with_reducible refine sat_brT ?_ ?_); rfl; conv => arg 3; whnf) | ((with_reducible refine sat_brF ?_ ?_); rfl; conv => arg 3; whnf) | ((with_reducible refine sat_eqv ?_ ?_); rfl; conv => arg 3; whnf))
        refine sat_idx (insT x1 x2 x3 x4 x5) (by simp) (by simpa using hx1) ?_
        (conv => arg 3; whnf); repeat (first | ((with_reducible refine sat_brT ?_ ?_); rfl; conv => arg 3; whnf) | ((with_reducible refine sat_brF ?_ ?_); rfl; conv => arg 3; whnf) | ((with_reducible refine sat_eqv ?_ ?_); rfl; conv => arg 3; whnf))
        refine sat_idx (insT y1 y2 y3 y4 y5) (by simp) (by simpa using hy1) ?_
        (conv => arg 3; whnf); repeat (first | ((with_reducible refine sat_brT ?_ ?_); rfl; conv => arg 3; whnf) | ((with_reducible refine sat_brF ?_ ?_); rfl; conv => arg 3; whnf) | ((with_reducible refine sat_eqv ?_ ?_); rfl; conv => arg 3; whnf))
        refine sat_asrt rfl ?_
        (conv => arg 3; whnf); repeat (first | ((with_reducible refine sat_brT ?_ ?_); rfl; conv => arg 3; whnf) | ((with_reducible refine sat_brF ?_ ?_); rfl; conv => arg 3; whnf) | ((with_reducible refine sat_eqv ?_ ?_); rfl; conv => arg 3; whnf))
        refine sat_br (fun hq => ?_) (fun hq => ?_)
        · have hq : (insT x1 x2 x3 x4 x5).eqb (insT y1 y2 y3 y4 y5) = false := by cases hxy : (insT x1 x2 x3 x4 x5).eqb (insT y1 y2 y3 y4 y5) with | true => rw [hxy] at hq; cases hq | false => rfl
          rw [hq] at e
          (conv => arg 3; whnf); repeat (first | ((with_reducible refine sat_brT ?_ ?_); rfl; conv => arg 3; whnf) | ((with_reducible refine sat_brF ?_ ?_); rfl; conv => arg 3; whnf) | ((with_reducible refine sat_eqv ?_ ?_); rfl; conv => arg 3; whnf))
          refine sat_ret ⟨rfl, .inr ⟨rfl, rfl, e.symm⟩⟩
        · have hq : (insT x1 x2 x3 x4 x5).eqb (insT y1 y2 y3 y4 y5) = true := by cases hxy : (insT x1 x2 x3 x4 x5).eqb (insT y1 y2 y3 y4 y5) with | true => rfl | false => rw [hxy] at hq; cases hq
          rw [hq, Bool.true_and] at e
          (conv => arg 3; whnf); repeat (first | ((with_reducible refine sat_brT ?_ ?_); rfl; conv => arg 3; whnf) | ((with_reducible refine sat_brF ?_ ?_); rfl; conv => arg 3; whnf) | ((with_reducible refine sat_eqv ?_ ?_); rfl; conv => arg 3; whnf))
          refine sat_rng (wrap64 (by omega) (by omega)) ?_
          exact sat_ret ⟨⟨i + 1, hi, e⟩, rfl, rfl, by show x.B.length - (i + 1) < x.B.length - i; omega⟩
      · have hi : ¬ i < x.B.length := by have := of_decide_eq_false hi; omega
        rw [List.drop_eq_nil_of_le (by omega), List.drop_eq_nil_of_le (by omega)] at e
        (conv => arg 3; whnf); repeat (first | ((with_reducible refine sat_brT ?_ ?_); rfl; conv => arg 3; whnf) | ((with_reducible refine sat_brF ?_ ?_); rfl; conv => arg 3; whnf) | ((with_reducible refine sat_eqv ?_ ?_); rfl; conv => arg 3; whnf))
        refine sat_ret ⟨rfl, .inl ⟨rfl, rfl, e.symm⟩⟩
    · rintro ex fr' H' ⟨rfl, (⟨rfl, rfl, hq⟩ | ⟨rfl, rfl, hq⟩)⟩
      · rw [hq]
        (conv => arg 3; whnf); repeat (first | ((with_reducible refine sat_brT ?_ ?_); rfl; conv => arg 3; whnf) | ((with_reducible refine sat_brF ?_ ?_); rfl; conv => arg 3; whnf) | ((with_reducible refine sat_eqv ?_ ?_); rfl; conv => arg 3; whnf))
        exact sat_ret ⟨rfl, rfl⟩
      · rw [hq]
        (conv => arg 3; whnf); repeat (first | ((with_reducible refine sat_brT ?_ ?_); rfl; conv => arg 3; whnf) | ((with_reducible refine sat_brF ?_ ?_); rfl; conv => arg 3; whnf) | ((with_reducible refine sat_eqv ?_ ?_); rfl; conv => arg 3; whnf))
        exact sat_ret ⟨rfl, rfl⟩
end Stk
