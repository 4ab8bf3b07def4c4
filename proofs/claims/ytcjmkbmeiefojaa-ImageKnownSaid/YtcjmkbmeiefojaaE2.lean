/- Bytes of an image. -/
import Derived.Test.YtcjmkbmeiefojaaE1
namespace Stk
open Go
set_option maxRecDepth 100000
set_option linter.unusedSimpArgs false
set_option linter.unusedVariables false
set_option maxHeartbeats 2000000
def fit (n : Int) : Bool := decide (0 ≤ n) && decide (n ≤ 255)
theorem k_fits (n : Int) : ACalls PP GG F.image_fits [ti n] [] fun r H' => r = tb (fit n) ∧ H' = [] := by
  refine K.image_fits.callsQ rfl ?_
  unfold fit
  (conv => arg 3; whnf); repeat (first | ((with_reducible refine sat_brT ?_ ?_); rfl; conv => arg 3; whnf) | ((with_reducible refine sat_brF ?_ ?_); rfl; conv => arg 3; whnf) | ((with_reducible refine sat_eqv ?_ ?_); rfl; conv => arg 3; whnf))
  refine sat_br (fun h => ?_) (fun h => ?_)
  · rw [decide_eq_true (show 0 ≤ n from of_decide_eq_true h)]
    (conv => arg 3; whnf); repeat (first | ((with_reducible refine sat_brT ?_ ?_); rfl; conv => arg 3; whnf) | ((with_reducible refine sat_brF ?_ ?_); rfl; conv => arg 3; whnf) | ((with_reducible refine sat_eqv ?_ ?_); rfl; conv => arg 3; whnf))
    exact sat_ret ⟨rfl, rfl⟩
  · rw [decide_eq_false (show ¬ 0 ≤ n from of_decide_eq_false h)]
    (conv => arg 3; whnf); repeat (first | ((with_reducible refine sat_brT ?_ ?_); rfl; conv => arg 3; whnf) | ((with_reducible refine sat_brF ?_ ?_); rfl; conv => arg 3; whnf) | ((with_reducible refine sat_eqv ?_ ?_); rfl; conv => arg 3; whnf))
    exact sat_ret ⟨rfl, rfl⟩
theorem k_clip (L : List Tr) : ACalls PP GG F.slices_Clip_byte_byte [.sl 0 0 [] 0 L.length none] [.row 1 L] fun r H' => r = .sl 0 0 [] 0 L.length (some L.length) ∧ H' = [.row 1 L] := by
  refine K.slices_Clip_byte_byte.callsQ rfl ?_
  (conv => arg 3; whnf); repeat (first | ((with_reducible refine sat_brT ?_ ?_); rfl; conv => arg 3; whnf) | ((with_reducible refine sat_brF ?_ ?_); rfl; conv => arg 3; whnf) | ((with_reducible refine sat_eqv ?_ ?_); rfl; conv => arg 3; whnf))
  refine sat_asrt (by simp) ?_
  (conv => arg 3; whnf); repeat (first | ((with_reducible refine sat_brT ?_ ?_); rfl; conv => arg 3; whnf) | ((with_reducible refine sat_brF ?_ ?_); rfl; conv => arg 3; whnf) | ((with_reducible refine sat_eqv ?_ ?_); rfl; conv => arg 3; whnf))
  refine sat_asrt (by simp) ?_
  (conv => arg 3; whnf); repeat (first | ((with_reducible refine sat_brT ?_ ?_); rfl; conv => arg 3; whnf) | ((with_reducible refine sat_brF ?_ ?_); rfl; conv => arg 3; whnf) | ((with_reducible refine sat_eqv ?_ ?_); rfl; conv => arg 3; whnf))
  refine sat_ret ⟨?_, rfl⟩
  simp
def mb : Tr → List Tr
  | .agg [.int _ a, .int _ b, .int _ c, .int _ d] => [u8 a, u8 b, u8 c, u8 d]
  | _ => []
def mfit : Tr → Bool
  | .agg [.int _ a, .int _ b, .int _ c, .int _ d] => fit a && (fit b && (fit c && fit d))
  | _ => false
def ib : Tr → List Tr
  | .agg [.int _ o, .int _ d, .int _ s, .int _ f, .int _ m] => eb o d s f m
  | _ => []
def ifit : Tr → Bool
  | .agg [.int _ o, .int _ d, .int _ s, .int _ f, .int _ m] => decide (d ≤ 15 ∧ s ≤ 15)
  | _ => false
def Im.pre (x : Im) (i : Nat) : List Tr := u8 x.A.length :: (x.A.take i).flatMap mb
def Im.hd (x : Im) : List Tr := x.pre x.A.length ++ [u8 (x.B.length % 256 : Nat), u8 (x.B.length / 256 : Nat)]
def Im.all (x : Im) (i : Nat) : List Tr := x.hd ++ (x.B.take i).flatMap ib
def Im.enc (x : Im) : List Tr × Int :=
  if x.A.length > 4 ∨ x.B.length > 512 then ([], 3) else if x.A.all mfit = false then ([], 26) else if x.B.all ifit = false then ([], 21) else (x.all x.B.length, 0)
theorem pre_next {x : Im} {i : Nat} {y : Tr} (h : x.A[i]? = some y) : x.pre (i + 1) = x.pre i ++ mb y := by
  unfold Im.pre
  rw [List.take_add_one, h]
  simp
theorem all_next {x : Im} {i : Nat} {y : Tr} (h : x.B[i]? = some y) : x.all (i + 1) = x.all i ++ ib y := by
  unfold Im.all
  rw [List.take_add_one, h]
  simp
theorem all_take {A : List Tr} {p : Tr → Bool} {i : Nat} {y : Tr} (h : A[i]? = some y) : (A.take (i + 1)).all p = ((A.take i).all p && p y) := by
  rw [List.take_add_one, h, List.all_append]
  simp
theorem all_false {A : List Tr} {p : Tr → Bool} {i : Nat} {y : Tr} (h : A[i]? = some y) (hp : p y = false) : A.all p = false := by
  rw [List.all_eq_false]
  exact ⟨y, List.mem_of_getElem? h, by rw [hp]; simp⟩
theorem pre_len {x : Im} (h : AllM x.A) : ∀ i, i ≤ x.A.length → (x.pre i).length = 1 + 4 * i
  | 0, _ => by simp [Im.pre]
  | i + 1, hi => by
    obtain ⟨a, b, c, d, e, _⟩ := h.get (show i < x.A.length by omega)
    rw [pre_next e, List.length_append, pre_len h i (by omega)]
    show 1 + 4 * i + 4 = _
    omega
theorem all_len {x : Im} (ha : AllM x.A) (hb : AllC x.B) : ∀ i, i ≤ x.B.length → (x.all i).length = 3 + 4 * x.A.length + 8 * i
  | 0, _ => by
    have := pre_len ha x.A.length (Nat.le_refl _)
    unfold Im.all Im.hd
    simp [this]; omega
  | i + 1, hi => by
    obtain ⟨o, d, s, f, m, e, _⟩ := hb.get (show i < x.B.length by omega)
    rw [all_next e, List.length_append, all_len ha hb i (by omega)]
    show _ + 8 = _
    omega
def capOf : Nat → Option Nat
  | 0 => some 1
  | _ + 1 => none
structure MSt (x : Im) where
  i : Nat
  im : i ≤ x.A.length
  ok : (x.A.take i).all mfit = true
abbrev pt' (b : Nat) : AV := .ptr b 0 0 [] none
theorem fit_iff {n : Int} (h : fit n = true) : 0 ≤ n ∧ n ≤ 255 := by
  unfold fit at h
  rw [Bool.and_eq_true] at h
  exact ⟨of_decide_eq_true h.1, of_decide_eq_true h.2⟩
theorem fit_rng {n : Int} (h : fit n = true) : IntKind.wrap .u8 n = n := by
  have := fit_iff h
  rw [IntKind.wrap_u8]; omega
structure CSt (x : Im) where
  i : Nat
  im : i ≤ x.B.length
  ok : (x.B.take i).all ifit = true
def capGe (c : Option Nat) (n : Nat) : Prop := ∀ k, c = some k → n ≤ k
theorem k_encode (x : Im) (hx : x.OK) : ACalls PP GG F.image_Encode [x.b] [] fun r H' => (∃ c, r = .tup [.sl 0 0 [] 0 x.enc.1.length c, ti x.enc.2] ∧ capGe c x.enc.1.length) ∧ H' = [.row 1 x.enc.1] := by
  have hma := hx.a
  refine K.image_Encode.callsC rfl ?_
  (conv => arg 3; whnf); repeat (first | ((with_reducible refine sat_brT ?_ ?_); rfl; conv => arg 3; whnf) | ((with_reducible refine sat_brF ?_ ?_); rfl; conv => arg 3; whnf) | ((with_reducible refine sat_eqv ?_ ?_); rfl; conv => arg 3; whnf))
  refine sat_br (fun h => ?_) (fun h => ?_)
  · have he : x.enc = ([], 3) := by unfold Im.enc; rw [if_pos (.inl (by have := of_decide_eq_true h; omega))]
    rw [he]
    (conv => arg 3; whnf); repeat (first | ((with_reducible refine sat_brT ?_ ?_); rfl; conv => arg 3; whnf) | ((with_reducible refine sat_brF ?_ ?_); rfl; conv => arg 3; whnf) | ((with_reducible refine sat_eqv ?_ ?_); rfl; conv => arg 3; whnf))
    exact sat_ret ⟨⟨_, rfl, by intro k h; cases h <;> exact Nat.le_refl _⟩, rfl⟩
  have h1 : x.A.length ≤ 4 := by have := of_decide_eq_false h; omega
  (conv => arg 3; whnf); repeat (first | ((with_reducible refine sat_brT ?_ ?_); rfl; conv => arg 3; whnf) | ((with_reducible refine sat_brF ?_ ?_); rfl; conv => arg 3; whnf) | ((with_reducible refine sat_eqv ?_ ?_); rfl; conv => arg 3; whnf))
  refine sat_br (fun h => ?_) (fun h => ?_)
  · have he : x.enc = ([], 3) := by unfold Im.enc; rw [if_pos (.inr (by have := of_decide_eq_true h; omega))]
    rw [he]
    (conv => arg 3; whnf); repeat (first | ((with_reducible refine sat_brT ?_ ?_); rfl; conv => arg 3; whnf) | ((with_reducible refine sat_brF ?_ ?_); rfl; conv => arg 3; whnf) | ((with_reducible refine sat_eqv ?_ ?_); rfl; conv => arg 3; whnf))
    exact sat_ret ⟨⟨_, rfl, by intro k h; cases h <;> exact Nat.le_refl _⟩, rfl⟩
  have h2 : x.B.length ≤ 512 := by have := of_decide_eq_false h; omega
  have hen : x.enc = if x.A.all mfit = false then ([], 26) else if x.B.all ifit = false then ([], 21) else (x.all x.B.length, 0) := by unfold Im.enc; rw [if_neg (by omega)]
  (conv => arg 3; whnf); repeat (first | ((with_reducible refine sat_brT ?_ ?_); rfl; conv => arg 3; whnf) | ((with_reducible refine sat_brF ?_ ?_); rfl; conv => arg 3; whnf) | ((with_reducible refine sat_eqv ?_ ?_); rfl; conv => arg 3; whnf))
  refine sat_rng (show IntKind.wrap .u8 (x.A.length : Int) = x.A.length by rw [IntKind.wrap_u8]; omega) ?_
  (conv => arg 3; whnf); repeat (first | ((with_reducible refine sat_brT ?_ ?_); rfl; conv => arg 3; whnf) | ((with_reducible refine sat_brF ?_ ?_); rfl; conv => arg 3; whnf) | ((with_reducible refine sat_eqv ?_ ?_); rfl; conv => arg 3; whnf))
  refine sat_loopOf mkX_ops (σ := MSt x) (fun s => [(1, pt' 0), (4, .sl 1 0 [] 0 (x.pre s.i).length (capOf s.i)), (27, .bz 4 x.A), (28, ti x.A.length), (29, ti s.i)]) (fun s => [.var x.b, .row 1 (x.pre s.i)]) (fun s => x.A.length - s.i)
    (fun ex fr' H' => (ex = .exit 0 ∧ x.A.all mfit = true ∧ fr' = [(1, pt' 0), (2, .undef), (3, .undef), (4, .sl 1 0 [] 0 (x.pre x.A.length).length (capOf x.A.length))] ∧ H' = [.var x.b, .row 1 (x.pre x.A.length)]) ∨
      (ex = .ret ∧ x.A.all mfit = false ∧ ∃ i y, fr' = [(1, pt' 0), (2, .sl 3 0 [] 0 0 none), (3, ti 26), (4, .sl 1 0 [] 0 (x.pre i).length (capOf i))] ∧ H' = [.var x.b, .row 1 (x.pre i), .var (.t y), .row 1 []])) ⟨0, Nat.zero_le _, rfl⟩ ?_ ?_
  · rintro ⟨i, im, ok⟩
    dsimp only
    refine sat_br (fun hi => ?_) (fun hi => ?_)
    · have hi : i < x.A.length := by have := of_decide_eq_true hi; omega
      obtain ⟨a, b, c, d, hy, _⟩ := hx.a.get hi
      have hok : (x.A.take (i + 1)).all mfit = (fit a && (fit b && (fit c && fit d))) := by rw [all_take hy, ok]; rfl
      have hbad : (fit a && (fit b && (fit c && fit d))) = false → x.A.all mfit = false := fun h => all_false hy h
      have he := pre_next hy
      have hpl := pre_len hma i (by omega)
      (conv => arg 3; whnf); repeat (first | ((with_reducible refine sat_brT ?_ ?_); rfl; conv => arg 3; whnf) | ((with_reducible refine sat_brF ?_ ?_); rfl; conv => arg 3; whnf) | ((with_reducible refine sat_eqv ?_ ?_); rfl; conv => arg 3; whnf))
      refine sat_idx (mapT a b c d) (by simp) (by simpa using hy) ?_
      (conv => arg 3; whnf); repeat (first | ((with_reducible refine sat_brT ?_ ?_); rfl; conv => arg 3; whnf) | ((with_reducible refine sat_brF ?_ ?_); rfl; conv => arg 3; whnf) | ((with_reducible refine sat_eqv ?_ ?_); rfl; conv => arg 3; whnf))
      refine sat_call (k_fits a) ?_
      rintro r H' ⟨rfl, rfl⟩
      cases ha : fit a with
      | false =>
        rw [ha] at hbad
        (conv => arg 3; whnf); repeat (first | ((with_reducible refine sat_brT ?_ ?_); rfl; conv => arg 3; whnf) | ((with_reducible refine sat_brF ?_ ?_); rfl; conv => arg 3; whnf) | ((with_reducible refine sat_eqv ?_ ?_); rfl; conv => arg 3; whnf))
        exact sat_ret (.inr ⟨rfl, hbad rfl, _, _, rfl, rfl⟩)
      | true =>
      (conv => arg 3; whnf); repeat (first | ((with_reducible refine sat_brT ?_ ?_); rfl; conv => arg 3; whnf) | ((with_reducible refine sat_brF ?_ ?_); rfl; conv => arg 3; whnf) | ((with_reducible refine sat_eqv ?_ ?_); rfl; conv => arg 3; whnf))
      refine sat_call (k_fits b) ?_
      rintro r H' ⟨rfl, rfl⟩
      cases hb : fit b with
      | false =>
        rw [ha, hb] at hbad
        (conv => arg 3; whnf); repeat (first | ((with_reducible refine sat_brT ?_ ?_); rfl; conv => arg 3; whnf) | ((with_reducible refine sat_brF ?_ ?_); rfl; conv => arg 3; whnf) | ((with_reducible refine sat_eqv ?_ ?_); rfl; conv => arg 3; whnf))
        exact sat_ret (.inr ⟨rfl, hbad rfl, _, _, rfl, rfl⟩)
      | true =>
      (conv => arg 3; whnf); repeat (first | ((with_reducible refine sat_brT ?_ ?_); rfl; conv => arg 3; whnf) | ((with_reducible refine sat_brF ?_ ?_); rfl; conv => arg 3; whnf) | ((with_reducible refine sat_eqv ?_ ?_); rfl; conv => arg 3; whnf))
      refine sat_call (k_fits c) ?_
      rintro r H' ⟨rfl, rfl⟩
      cases hc : fit c with
      | false =>
        rw [ha, hb, hc] at hbad
        (conv => arg 3; whnf); repeat (first | ((with_reducible refine sat_brT ?_ ?_); rfl; conv => arg 3; whnf) | ((with_reducible refine sat_brF ?_ ?_); rfl; conv => arg 3; whnf) | ((with_reducible refine sat_eqv ?_ ?_); rfl; conv => arg 3; whnf))
        exact sat_ret (.inr ⟨rfl, hbad rfl, _, _, rfl, rfl⟩)
      | true =>
      (conv => arg 3; whnf); repeat (first | ((with_reducible refine sat_brT ?_ ?_); rfl; conv => arg 3; whnf) | ((with_reducible refine sat_brF ?_ ?_); rfl; conv => arg 3; whnf) | ((with_reducible refine sat_eqv ?_ ?_); rfl; conv => arg 3; whnf))
      refine sat_call (k_fits d) ?_
      rintro r H' ⟨rfl, rfl⟩
      cases hd : fit d with
      | false =>
        rw [ha, hb, hc, hd] at hbad
        (conv => arg 3; whnf); repeat (first | ((with_reducible refine sat_brT ?_ ?_); rfl; conv => arg 3; whnf) | ((with_reducible refine sat_brF ?_ ?_); rfl; conv => arg 3; whnf) | ((with_reducible refine sat_eqv ?_ ?_); rfl; conv => arg 3; whnf))
        exact sat_ret (.inr ⟨rfl, hbad rfl, _, _, rfl, rfl⟩)
      | true =>
      rw [ha, hb, hc, hd] at hok
      (conv => arg 3; whnf); repeat (first | ((with_reducible refine sat_brT ?_ ?_); rfl; conv => arg 3; whnf) | ((with_reducible refine sat_brF ?_ ?_); rfl; conv => arg 3; whnf) | ((with_reducible refine sat_eqv ?_ ?_); rfl; conv => arg 3; whnf))
      refine sat_rng (fit_rng ha) ?_
      (conv => arg 3; whnf); repeat (first | ((with_reducible refine sat_brT ?_ ?_); rfl; conv => arg 3; whnf) | ((with_reducible refine sat_brF ?_ ?_); rfl; conv => arg 3; whnf) | ((with_reducible refine sat_eqv ?_ ?_); rfl; conv => arg 3; whnf))
      refine sat_rng (fit_rng hb) ?_
      (conv => arg 3; whnf); repeat (first | ((with_reducible refine sat_brT ?_ ?_); rfl; conv => arg 3; whnf) | ((with_reducible refine sat_brF ?_ ?_); rfl; conv => arg 3; whnf) | ((with_reducible refine sat_eqv ?_ ?_); rfl; conv => arg 3; whnf))
      refine sat_rng (fit_rng hc) ?_
      (conv => arg 3; whnf); repeat (first | ((with_reducible refine sat_brT ?_ ?_); rfl; conv => arg 3; whnf) | ((with_reducible refine sat_brF ?_ ?_); rfl; conv => arg 3; whnf) | ((with_reducible refine sat_eqv ?_ ?_); rfl; conv => arg 3; whnf))
      refine sat_rng (fit_rng hd) ?_
      (conv => arg 3; whnf); repeat (first | ((with_reducible refine sat_brT ?_ ?_); rfl; conv => arg 3; whnf) | ((with_reducible refine sat_brF ?_ ?_); rfl; conv => arg 3; whnf) | ((with_reducible refine sat_eqv ?_ ?_); rfl; conv => arg 3; whnf))
      cases i with
      | zero =>
        (conv => arg 3; whnf); repeat (first | ((with_reducible refine sat_brT ?_ ?_); rfl; conv => arg 3; whnf) | ((with_reducible refine sat_brF ?_ ?_); rfl; conv => arg 3; whnf) | ((with_reducible refine sat_eqv ?_ ?_); rfl; conv => arg 3; whnf))
        refine sat_asrt (by simp [roomy]; omega) ?_
        (conv => arg 3; whnf); repeat (first | ((with_reducible refine sat_brT ?_ ?_); rfl; conv => arg 3; whnf) | ((with_reducible refine sat_brF ?_ ?_); rfl; conv => arg 3; whnf) | ((with_reducible refine sat_eqv ?_ ?_); rfl; conv => arg 3; whnf))
        refine sat_rng (wrap64 (by omega) (by omega)) ?_
        exact sat_ret ⟨⟨1, hi, hok⟩, by dsimp only; rw [he]; rfl, by dsimp only; rw [he]; rfl, by show x.A.length - 1 < x.A.length - 0; omega⟩
      | succ i =>
        (conv => arg 3; whnf); repeat (first | ((with_reducible refine sat_brT ?_ ?_); rfl; conv => arg 3; whnf) | ((with_reducible refine sat_brF ?_ ?_); rfl; conv => arg 3; whnf) | ((with_reducible refine sat_eqv ?_ ?_); rfl; conv => arg 3; whnf))
        refine sat_asrt (by simp) ?_
        (conv => arg 3; whnf); repeat (first | ((with_reducible refine sat_brT ?_ ?_); rfl; conv => arg 3; whnf) | ((with_reducible refine sat_brF ?_ ?_); rfl; conv => arg 3; whnf) | ((with_reducible refine sat_eqv ?_ ?_); rfl; conv => arg 3; whnf))
        refine sat_asrt (by simp [roomy]; omega) ?_
        refine sat_brT (Nat.beq_refl _) ?_
        (conv => arg 3; whnf); repeat (first | ((with_reducible refine sat_brT ?_ ?_); rfl; conv => arg 3; whnf) | ((with_reducible refine sat_brF ?_ ?_); rfl; conv => arg 3; whnf) | ((with_reducible refine sat_eqv ?_ ?_); rfl; conv => arg 3; whnf))
        refine sat_rng (wrap64 (by omega) (by omega)) ?_
        exact sat_ret ⟨⟨i + 1 + 1, hi, hok⟩, by dsimp only; rw [he]; rfl, by dsimp only; rw [he]; rfl, by show x.A.length - (i + 1 + 1) < x.A.length - (i + 1); omega⟩
    · have hi : i = x.A.length := by have := of_decide_eq_false hi; omega
      subst hi
      rw [List.take_length] at ok
      (conv => arg 3; whnf); repeat (first | ((with_reducible refine sat_brT ?_ ?_); rfl; conv => arg 3; whnf) | ((with_reducible refine sat_brF ?_ ?_); rfl; conv => arg 3; whnf) | ((with_reducible refine sat_eqv ?_ ?_); rfl; conv => arg 3; whnf))
      exact sat_ret (.inl ⟨rfl, ok, rfl, rfl⟩)
  · rintro ex fr' H' (⟨rfl, hm, rfl, rfl⟩ | ⟨rfl, hm, i, y, rfl, rfl⟩)
    rotate_left
    · rw [hen, if_pos hm]
      (conv => arg 3; whnf); repeat (first | ((with_reducible refine sat_brT ?_ ?_); rfl; conv => arg 3; whnf) | ((with_reducible refine sat_brF ?_ ?_); rfl; conv => arg 3; whnf) | ((with_reducible refine sat_eqv ?_ ?_); rfl; conv => arg 3; whnf))
      exact sat_ret ⟨⟨_, rfl, by intro k h; cases h <;> exact Nat.le_refl _⟩, rfl⟩
    rw [if_neg (by rw [hm]; simp)] at hen
    have hpl := pre_len hma x.A.length (Nat.le_refl _)
    have h0 : x.pre x.A.length ++ List.take 2 (List.drop 0 [u8 (x.B.length % 256 : Nat), u8 (x.B.length / 256 : Nat)]) = x.all 0 := by unfold Im.all Im.hd; simp
    have h0' : List.take (x.pre x.A.length).length (List.drop 0 (x.pre x.A.length)) ++ List.take 2 (List.drop 0 [u8 (x.B.length % 256 : Nat), u8 (x.B.length / 256 : Nat)]) = x.all 0 := by rw [List.drop_zero, List.take_length]; exact h0
    have hlen : (x.pre x.A.length).length + (List.take 2 (List.drop 0 [u8 (x.B.length % 256 : Nat), u8 (x.B.length / 256 : Nat)])).length = (x.all 0).length := by rw [← h0, List.length_append]
    have hcap : (capOf x.A.length = some 1 ∧ x.A.length = 0) ∨ capOf x.A.length = none := by cases x.A.length with | zero => exact .inl ⟨rfl, rfl⟩ | succ n => exact .inr rfl
    generalize capOf x.A.length = cp at hcap ⊢
    (conv => arg 3; whnf); repeat (first | ((with_reducible refine sat_brT ?_ ?_); rfl; conv => arg 3; whnf) | ((with_reducible refine sat_brF ?_ ?_); rfl; conv => arg 3; whnf) | ((with_reducible refine sat_eqv ?_ ?_); rfl; conv => arg 3; whnf))
    refine sat_rngw ?_
    rw [show IntKind.wrap .u8 (x.B.length : Int) = ((x.B.length % 256 : Nat) : Int) by rw [IntKind.wrap_u8]; omega]
    (conv => arg 3; whnf); repeat (first | ((with_reducible refine sat_brT ?_ ?_); rfl; conv => arg 3; whnf) | ((with_reducible refine sat_brF ?_ ?_); rfl; conv => arg 3; whnf) | ((with_reducible refine sat_eqv ?_ ?_); rfl; conv => arg 3; whnf))
    refine sat_asrt rfl ?_
    (conv => arg 3; whnf); repeat (first | ((with_reducible refine sat_brT ?_ ?_); rfl; conv => arg 3; whnf) | ((with_reducible refine sat_brF ?_ ?_); rfl; conv => arg 3; whnf) | ((with_reducible refine sat_eqv ?_ ?_); rfl; conv => arg 3; whnf))
    refine sat_rngw ?_
    rw [show IntKind.wrap .u8 ((x.B.length : Int).fdiv (2 ^ min (Int.toNat 8) (IntKind.bits .i64))) = ((x.B.length / 256 : Nat) : Int) by rw [show (2 : Int) ^ min (Int.toNat 8) (IntKind.bits .i64) = 256 by decide, Int.fdiv_eq_ediv_of_nonneg _ (by decide), IntKind.wrap_u8]; omega]
    rcases hcap with ⟨rfl, hA⟩ | rfl
    · (conv => arg 3; whnf); repeat (first | ((with_reducible refine sat_brT ?_ ?_); rfl; conv => arg 3; whnf) | ((with_reducible refine sat_brF ?_ ?_); rfl; conv => arg 3; whnf) | ((with_reducible refine sat_eqv ?_ ?_); rfl; conv => arg 3; whnf))
      refine sat_asrt (by simp [roomy]; omega) ?_
      rw [h0', hlen]
      (conv => arg 3; whnf); repeat (first | ((with_reducible refine sat_brT ?_ ?_); rfl; conv => arg 3; whnf) | ((with_reducible refine sat_brF ?_ ?_); rfl; conv => arg 3; whnf) | ((with_reducible refine sat_eqv ?_ ?_); rfl; conv => arg 3; whnf))
      refine sat_loopOf mkX_ops (σ := CSt x) (fun s => [(4, .sl 0 0 [] 0 (x.all s.i).length none), (84, .bz 5 x.B), (85, ti x.B.length), (86, ti s.i)]) (fun s => [.row 1 (x.all s.i)]) (fun s => x.B.length - s.i)
        (fun ex fr' H' => (ex = .exit 2 ∧ x.B.all ifit = true ∧ fr' = [(2, .undef), (3, .undef), (4, .sl 0 0 [] 0 (x.all x.B.length).length none)] ∧ H' = [.row 1 (x.all x.B.length)]) ∨
          (ex = .ret ∧ x.B.all ifit = false ∧ ∃ i y, fr' = [(2, .sl 3 0 [] 0 0 none), (3, ti 21), (4, .sl 0 0 [] 0 (x.all i).length none)] ∧ H' = [.row 1 (x.all i), .var (.t y), .row 1 [], .row 1 []])) ⟨0, Nat.zero_le _, rfl⟩ ?_ ?_
      · rintro ⟨i, im, ok⟩
        dsimp only
        refine sat_br (fun hi => ?_) (fun hi => ?_)
        · have hi : i < x.B.length := by have := of_decide_eq_true hi; omega
          obtain ⟨o, d, s, f, m, hy, hins⟩ := hx.b.get hi
          have he : x.all (i + 1) = x.all i ++ eb o d s f m := all_next hy
          have hal := all_len hma hx.b i (by omega)
          (conv => arg 3; whnf); repeat (first | ((with_reducible refine sat_brT ?_ ?_); rfl; conv => arg 3; whnf) | ((with_reducible refine sat_brF ?_ ?_); rfl; conv => arg 3; whnf) | ((with_reducible refine sat_eqv ?_ ?_); rfl; conv => arg 3; whnf))
          refine sat_idx (insT o d s f m) (by simp) (by simpa using hy) ?_
          (conv => arg 3; whnf); repeat (first | ((with_reducible refine sat_brT ?_ ?_); rfl; conv => arg 3; whnf) | ((with_reducible refine sat_brF ?_ ?_); rfl; conv => arg 3; whnf) | ((with_reducible refine sat_eqv ?_ ?_); rfl; conv => arg 3; whnf))
          refine sat_call (k_ins o d s f m hins) ?_
          rintro r H' ⟨⟨c, rfl⟩, rfl⟩
          by_cases hq : d ≤ 15 ∧ s ≤ 15
          · have hok : (x.B.take (i + 1)).all ifit = true := by rw [all_take hy, ok]; exact decide_eq_true hq
            rw [show insR o d s f m = (eb o d s f m, 0) by unfold insR; rw [if_pos hq]]
            (conv => arg 3; whnf); repeat (first | ((with_reducible refine sat_brT ?_ ?_); rfl; conv => arg 3; whnf) | ((with_reducible refine sat_brF ?_ ?_); rfl; conv => arg 3; whnf) | ((with_reducible refine sat_eqv ?_ ?_); rfl; conv => arg 3; whnf))
            refine sat_asrt (by simp) ?_
            refine sat_asrt (by simp [roomy, eb]; omega) ?_
            refine sat_brT (Nat.beq_refl _) ?_
            (conv => arg 3; whnf); repeat (first | ((with_reducible refine sat_brT ?_ ?_); rfl; conv => arg 3; whnf) | ((with_reducible refine sat_brF ?_ ?_); rfl; conv => arg 3; whnf) | ((with_reducible refine sat_eqv ?_ ?_); rfl; conv => arg 3; whnf))
            refine sat_rng (wrap64 (by omega) (by omega)) ?_
            refine sat_ret ⟨⟨i + 1, hi, hok⟩, ?_, ?_, by show x.B.length - (i + 1) < x.B.length - i; omega⟩
            · dsimp only; rw [he]; rfl
            · dsimp only; rw [he]; rfl
          · have hbad : x.B.all ifit = false := all_false hy (decide_eq_false hq)
            rw [show insR o d s f m = ([], 21) by unfold insR; rw [if_neg hq]]
            (conv => arg 3; whnf); repeat (first | ((with_reducible refine sat_brT ?_ ?_); rfl; conv => arg 3; whnf) | ((with_reducible refine sat_brF ?_ ?_); rfl; conv => arg 3; whnf) | ((with_reducible refine sat_eqv ?_ ?_); rfl; conv => arg 3; whnf))
            exact sat_ret (.inr ⟨rfl, hbad, _, _, rfl, rfl⟩)
        · have hi : i = x.B.length := by have := of_decide_eq_false hi; omega
          subst hi
          rw [List.take_length] at ok
          (conv => arg 3; whnf); repeat (first | ((with_reducible refine sat_brT ?_ ?_); rfl; conv => arg 3; whnf) | ((with_reducible refine sat_brF ?_ ?_); rfl; conv => arg 3; whnf) | ((with_reducible refine sat_eqv ?_ ?_); rfl; conv => arg 3; whnf))
          exact sat_ret (.inl ⟨rfl, ok, rfl, rfl⟩)
      · rintro ex fr' H' (⟨rfl, hm, rfl, rfl⟩ | ⟨rfl, hm, i, y, rfl, rfl⟩)
        · rw [hen, if_neg (by rw [hm]; simp)]
          (conv => arg 3; whnf); repeat (first | ((with_reducible refine sat_brT ?_ ?_); rfl; conv => arg 3; whnf) | ((with_reducible refine sat_brF ?_ ?_); rfl; conv => arg 3; whnf) | ((with_reducible refine sat_eqv ?_ ?_); rfl; conv => arg 3; whnf))
          refine sat_call (k_clip _) ?_
          rintro r H' ⟨rfl, rfl⟩
          (conv => arg 3; whnf); repeat (first | ((with_reducible refine sat_brT ?_ ?_); rfl; conv => arg 3; whnf) | ((with_reducible refine sat_brF ?_ ?_); rfl; conv => arg 3; whnf) | ((with_reducible refine sat_eqv ?_ ?_); rfl; conv => arg 3; whnf))
          exact sat_ret ⟨⟨_, rfl, by intro k h; cases h <;> exact Nat.le_refl _⟩, rfl⟩
        · rw [hen, if_pos hm]
          (conv => arg 3; whnf); repeat (first | ((with_reducible refine sat_brT ?_ ?_); rfl; conv => arg 3; whnf) | ((with_reducible refine sat_brF ?_ ?_); rfl; conv => arg 3; whnf) | ((with_reducible refine sat_eqv ?_ ?_); rfl; conv => arg 3; whnf))
          exact sat_ret ⟨⟨_, rfl, by intro k h; cases h <;> exact Nat.le_refl _⟩, rfl⟩
    · (conv => arg 3; whnf); repeat (first | ((with_reducible refine sat_brT ?_ ?_); rfl; conv => arg 3; whnf) | ((with_reducible refine sat_brF ?_ ?_); rfl; conv => arg 3; whnf) | ((with_reducible refine sat_eqv ?_ ?_); rfl; conv => arg 3; whnf))
      refine sat_asrt (by simp) ?_
      refine sat_asrt (by simp [roomy]; omega) ?_
      refine sat_brT (Nat.beq_refl _) ?_
      rw [h0]
      (conv => arg 3; whnf); repeat (first | ((with_reducible refine sat_brT ?_ ?_); rfl; conv => arg 3; whnf) | ((with_reducible refine sat_brF ?_ ?_); rfl; conv => arg 3; whnf) | ((with_reducible refine sat_eqv ?_ ?_); rfl; conv => arg 3; whnf))
      refine sat_loopOf mkX_ops (σ := CSt x) (fun s => [(4, .sl 0 0 [] 0 (x.all s.i).length none), (84, .bz 5 x.B), (85, ti x.B.length), (86, ti s.i)]) (fun s => [.row 1 (x.all s.i)]) (fun s => x.B.length - s.i)
        (fun ex fr' H' => (ex = .exit 2 ∧ x.B.all ifit = true ∧ fr' = [(2, .undef), (3, .undef), (4, .sl 0 0 [] 0 (x.all x.B.length).length none)] ∧ H' = [.row 1 (x.all x.B.length)]) ∨
          (ex = .ret ∧ x.B.all ifit = false ∧ ∃ i y, fr' = [(2, .sl 3 0 [] 0 0 none), (3, ti 21), (4, .sl 0 0 [] 0 (x.all i).length none)] ∧ H' = [.row 1 (x.all i), .var (.t y), .row 1 [], .row 1 []])) ⟨0, Nat.zero_le _, rfl⟩ ?_ ?_
      · rintro ⟨i, im, ok⟩
        dsimp only
        refine sat_br (fun hi => ?_) (fun hi => ?_)
        · have hi : i < x.B.length := by have := of_decide_eq_true hi; omega
          obtain ⟨o, d, s, f, m, hy, hins⟩ := hx.b.get hi
          have he : x.all (i + 1) = x.all i ++ eb o d s f m := all_next hy
          have hal := all_len hma hx.b i (by omega)
          (conv => arg 3; whnf); repeat (first | ((with_reducible refine sat_brT ?_ ?_); rfl; conv => arg 3; whnf) | ((with_reducible refine sat_brF ?_ ?_); rfl; conv => arg 3; whnf) | ((with_reducible refine sat_eqv ?_ ?_); rfl; conv => arg 3; whnf))
          refine sat_idx (insT o d s f m) (by simp) (by simpa using hy) ?_
          (conv => arg 3; whnf); repeat (first | ((with_reducible refine sat_brT ?_ ?_); rfl; conv => arg 3; whnf) | ((with_reducible refine sat_brF ?_ ?_); rfl; conv => arg 3; whnf) | ((with_reducible refine sat_eqv ?_ ?_); rfl; conv => arg 3; whnf))
          refine sat_call (k_ins o d s f m hins) ?_
          rintro r H' ⟨⟨c, rfl⟩, rfl⟩
          by_cases hq : d ≤ 15 ∧ s ≤ 15
          · have hok : (x.B.take (i + 1)).all ifit = true := by rw [all_take hy, ok]; exact decide_eq_true hq
            rw [show insR o d s f m = (eb o d s f m, 0) by unfold insR; rw [if_pos hq]]
            (conv => arg 3; whnf); repeat (first | ((with_reducible refine sat_brT ?_ ?_); rfl; conv => arg 3; whnf) | ((with_reducible refine sat_brF ?_ ?_); rfl; conv => arg 3; whnf) | ((with_reducible refine sat_eqv ?_ ?_); rfl; conv => arg 3; whnf))
            refine sat_asrt (by simp) ?_
            refine sat_asrt (by simp [roomy, eb]; omega) ?_
            refine sat_brT (Nat.beq_refl _) ?_
            (conv => arg 3; whnf); repeat (first | ((with_reducible refine sat_brT ?_ ?_); rfl; conv => arg 3; whnf) | ((with_reducible refine sat_brF ?_ ?_); rfl; conv => arg 3; whnf) | ((with_reducible refine sat_eqv ?_ ?_); rfl; conv => arg 3; whnf))
            refine sat_rng (wrap64 (by omega) (by omega)) ?_
            refine sat_ret ⟨⟨i + 1, hi, hok⟩, ?_, ?_, by show x.B.length - (i + 1) < x.B.length - i; omega⟩
            · dsimp only; rw [he]; rfl
            · dsimp only; rw [he]; rfl
          · have hbad : x.B.all ifit = false := all_false hy (decide_eq_false hq)
            rw [show insR o d s f m = ([], 21) by unfold insR; rw [if_neg hq]]
            (conv => arg 3; whnf); repeat (first | ((with_reducible refine sat_brT ?_ ?_); rfl; conv => arg 3; whnf) | ((with_reducible refine sat_brF ?_ ?_); rfl; conv => arg 3; whnf) | ((with_reducible refine sat_eqv ?_ ?_); rfl; conv => arg 3; whnf))
            exact sat_ret (.inr ⟨rfl, hbad, _, _, rfl, rfl⟩)
        · have hi : i = x.B.length := by have := of_decide_eq_false hi; omega
          subst hi
          rw [List.take_length] at ok
          (conv => arg 3; whnf); repeat (first | ((with_reducible refine sat_brT ?_ ?_); rfl; conv => arg 3; whnf) | ((with_reducible refine sat_brF ?_ ?_); rfl; conv => arg 3; whnf) | ((with_reducible refine sat_eqv ?_ ?_); rfl; conv => arg 3; whnf))
          exact sat_ret (.inl ⟨rfl, ok, rfl, rfl⟩)
      · rintro ex fr' H' (⟨rfl, hm, rfl, rfl⟩ | ⟨rfl, hm, i, y, rfl, rfl⟩)
        · rw [hen, if_neg (by rw [hm]; simp)]
          (conv => arg 3; whnf); repeat (first | ((with_reducible refine sat_brT ?_ ?_); rfl; conv => arg 3; whnf) | ((with_reducible refine sat_brF ?_ ?_); rfl; conv => arg 3; whnf) | ((with_reducible refine sat_eqv ?_ ?_); rfl; conv => arg 3; whnf))
          refine sat_call (k_clip _) ?_
          rintro r H' ⟨rfl, rfl⟩
          (conv => arg 3; whnf); repeat (first | ((with_reducible refine sat_brT ?_ ?_); rfl; conv => arg 3; whnf) | ((with_reducible refine sat_brF ?_ ?_); rfl; conv => arg 3; whnf) | ((with_reducible refine sat_eqv ?_ ?_); rfl; conv => arg 3; whnf))
          exact sat_ret ⟨⟨_, rfl, by intro k h; cases h <;> exact Nat.le_refl _⟩, rfl⟩
        · rw [hen, if_pos hm]
          (conv => arg 3; whnf); repeat (first | ((with_reducible refine sat_brT ?_ ?_); rfl; conv => arg 3; whnf) | ((with_reducible refine sat_brF ?_ ?_); rfl; conv => arg 3; whnf) | ((with_reducible refine sat_eqv ?_ ?_); rfl; conv => arg 3; whnf))
          exact sat_ret ⟨⟨_, rfl, by intro k h; cases h <;> exact Nat.le_refl _⟩, rfl⟩
end Stk
