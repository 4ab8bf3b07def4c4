/- The writer of forms: numbers, the lowest bytes first. -/
import Derived.Test.YtliklkagieaoeaaCk
namespace Stk
open Go
set_option maxRecDepth 100000
set_option linter.unusedSimpArgs false
set_option linter.unusedVariables false
set_option maxHeartbeats 4000000
abbrev tb (b : Bool) : AV := .t (.bool b)
abbrev ti (n : Int) : AV := .t (.int .i64 n)
abbrev tu (n : Int) : AV := .t (.int .u64 n)
abbrev pt (b : Nat) : AV := .ptr b 0 0 [] none
abbrev u8 (n : Int) : Tr := .int .u8 n
abbrev i6 (n : Int) : Tr := .int .i64 n
def AllB (xs : List Tr) : Prop := ∀ y ∈ xs, ∃ v, y = u8 v ∧ 0 ≤ v ∧ v ≤ 255
theorem AllB.get {xs : List Tr} (h : AllB xs) {i : Nat} (hi : i < xs.length) : ∃ v, xs[i]? = some (u8 v) ∧ 0 ≤ v ∧ v ≤ 255 := by
  obtain ⟨v, hv, h2⟩ := h _ (List.getElem_mem hi)
  exact ⟨v, by rw [List.getElem?_eq_getElem hi, hv], h2⟩
theorem AllB.take {xs : List Tr} (h : AllB xs) (n : Nat) : AllB (xs.take n) := fun y hy => h y (List.mem_of_mem_take hy)
theorem AllB.drop {xs : List Tr} (h : AllB xs) (n : Nat) : AllB (xs.drop n) := fun y hy => h y (List.mem_of_mem_drop hy)
theorem AllB.append {xs ys : List Tr} (h : AllB xs) (h' : AllB ys) : AllB (xs ++ ys) := fun y hy => (List.mem_append.1 hy).elim (h y) (h' y)
theorem AllB.cons {v : Int} {xs : List Tr} (hv : 0 ≤ v ∧ v ≤ 255) (h : AllB xs) : AllB (u8 v :: xs) := fun y hy => by
  rcases List.mem_cons.1 hy with rfl | hy
  · exact ⟨v, rfl, hv⟩
  · exact h y hy
theorem AllB.nil : AllB [] := fun y hy => by cases hy
theorem AllB.left {xs ys : List Tr} (h : AllB (xs ++ ys)) : AllB xs := fun y hy => h y (List.mem_append_left _ hy)
theorem AllB.right {xs ys : List Tr} (h : AllB (xs ++ ys)) : AllB ys := fun y hy => h y (List.mem_append_right _ hy)
theorem take_succ_get {α : Type} {a : List α} {i : Nat} {x : α} (h : a[i]? = some x) : a.take (i + 1) = a.take i ++ [x] := by
  rw [List.take_add_one, h]; rfl
/-- A number, the lowest byte first. -/
def leB : Nat → Int → List Tr
  | 0, _ => []
  | k + 1, n => u8 (n % 256) :: leB k (n / 256)
theorem leB_len : ∀ (k : Nat) (n : Int), (leB k n).length = k
  | 0, _ => rfl
  | k + 1, n => by simp [leB, leB_len k]
theorem leB_b : ∀ (k : Nat) (n : Int), AllB (leB k n)
  | 0, _ => AllB.nil
  | k + 1, n => AllB.cons (by omega) (leB_b k _)
def d256 : Nat → Int → Int
  | 0, n => n
  | i + 1, n => d256 i n / 256
theorem d256_out : ∀ (i : Nat) (n : Int), d256 i (n / 256) = d256 (i + 1) n
  | 0, _ => rfl
  | i + 1, n => by rw [d256, d256_out i n]; rfl
theorem leB_get : ∀ (k i : Nat) (n : Int), i < k → (leB k n)[i]? = some (u8 (d256 i n % 256))
  | k + 1, 0, n, _ => rfl
  | k + 1, i + 1, n, h => by
    rw [leB, List.getElem?_cons_succ, leB_get k i _ (by omega), d256_out]
theorem d256_range {n : Int} (h : 0 ≤ n ∧ n < 18446744073709551616) : ∀ i, 0 ≤ d256 i n ∧ d256 i n < 18446744073709551616
  | 0 => h
  | i + 1 => by have := d256_range h i; rw [d256]; omega
structure LwSt (k : Nat) where
  i : Nat
  le : i ≤ k
theorem k_low (n : Int) (hn : 0 ≤ n ∧ n < 18446744073709551616) (k : Nat) (hk : k ≤ 8) : ACalls PP GG F.ref20_low [tu n, ti k] [] fun r H' => r = .sl 0 0 [] 0 k none ∧ H' = [.row 1 (leB k n)] := by
  have hkl := leB_len k n
  refine K.ref20_low.callsC rfl ?_
  (conv => arg 3; whnf); repeat (first | ((with_reducible refine sat_brT ?_ ?_); rfl; conv => arg 3; whnf) | ((with_reducible refine sat_brF ?_ ?_); rfl; conv => arg 3; whnf) | ((with_reducible refine sat_eqv ?_ ?_); rfl; conv => arg 3; whnf))
  refine sat_loopOf mkX_ops (σ := LwSt k) (fun x => [(0, tu (d256 x.i n)), (1, ti k), (5, .sl 0 0 [] 0 ((leB k n).take x.i).length none), (6, ti x.i)]) (fun x => [.row 1 ((leB k n).take x.i)]) (fun x => k - x.i)
      (fun ex fr' H' => H' = [.row 1 (leB k n)] ∧ ex = .exit 0 ∧ fr' = [(5, .sl 0 0 [] 0 (leB k n).length none)]) ⟨0, Nat.zero_le _⟩ ?_ ?_
  · rintro ⟨i, hi⟩
    dsimp only
    refine sat_br (fun h => ?_) (fun h => ?_)
    · have h : i < k := by have := of_decide_eq_true h; omega
      have hd := d256_range hn i
      have hg := leB_get k i n h
      have hlt : ((leB k n).take i).length ≤ 8 := by rw [List.length_take]; omega
      (conv => arg 3; whnf); repeat (first | ((with_reducible refine sat_brT ?_ ?_); rfl; conv => arg 3; whnf) | ((with_reducible refine sat_brF ?_ ?_); rfl; conv => arg 3; whnf) | ((with_reducible refine sat_eqv ?_ ?_); rfl; conv => arg 3; whnf))
      refine sat_asrt rfl ?_
      (conv => arg 3; whnf); repeat (first | ((with_reducible refine sat_brT ?_ ?_); rfl; conv => arg 3; whnf) | ((with_reducible refine sat_brF ?_ ?_); rfl; conv => arg 3; whnf) | ((with_reducible refine sat_eqv ?_ ?_); rfl; conv => arg 3; whnf))
      rw [Int.tmod_eq_emod_of_nonneg hd.1]
      refine sat_rng (by rw [IntKind.wrap_u8]; omega) ?_
      (conv => arg 3; whnf); repeat (first | ((with_reducible refine sat_brT ?_ ?_); rfl; conv => arg 3; whnf) | ((with_reducible refine sat_brF ?_ ?_); rfl; conv => arg 3; whnf) | ((with_reducible refine sat_eqv ?_ ?_); rfl; conv => arg 3; whnf))
      refine sat_asrt (by simp) ?_
      refine sat_asrt (by simp [roomy]; omega) ?_
      refine sat_brT (by simp) ?_
      (conv => arg 3; whnf); repeat (first | ((with_reducible refine sat_brT ?_ ?_); rfl; conv => arg 3; whnf) | ((with_reducible refine sat_brF ?_ ?_); rfl; conv => arg 3; whnf) | ((with_reducible refine sat_eqv ?_ ?_); rfl; conv => arg 3; whnf))
      refine sat_asrt rfl ?_
      rw [Int.tdiv_eq_ediv_of_nonneg hd.1]
      refine sat_rng (by rw [IntKind.wrap_u64]; omega) ?_
      (conv => arg 3; whnf); repeat (first | ((with_reducible refine sat_brT ?_ ?_); rfl; conv => arg 3; whnf) | ((with_reducible refine sat_brF ?_ ?_); rfl; conv => arg 3; whnf) | ((with_reducible refine sat_eqv ?_ ?_); rfl; conv => arg 3; whnf))
      refine sat_rng (wrap64 (by omega) (by omega)) ?_
      have e1 : (leB k n).take i ++ [u8 (d256 i n % 256)] = (leB k n).take (i + 1) := (take_succ_get hg).symm
      refine sat_ret ⟨⟨i + 1, by omega⟩, ?_, ?_, by show k - (i + 1) < k - i; omega⟩
      · show [(_, _), (_, _), (_, AV.sl 0 0 [] 0 (_ ++ [u8 _]).length none), (_, _)] = _
        rw [e1]; rfl
      · show [AO.row 1 (_ ++ [u8 _])] = _
        rw [e1]
    · have h : ¬ i < k := by have := of_decide_eq_false h; omega
      have : (leB k n).take i = leB k n := List.take_of_length_le (by omega)
      exact sat_ret ⟨by rw [this], rfl, by rw [this]; rfl⟩
  · rintro ex fr' H' ⟨rfl, rfl, rfl⟩
    (conv => arg 3; whnf); repeat (first | ((with_reducible refine sat_brT ?_ ?_); rfl; conv => arg 3; whnf) | ((with_reducible refine sat_brF ?_ ?_); rfl; conv => arg 3; whnf) | ((with_reducible refine sat_eqv ?_ ?_); rfl; conv => arg 3; whnf))
    exact sat_ret ⟨by rw [hkl], rfl⟩
/-- uint64 of an int. -/
def uu (n : Int) : Int := n % 18446744073709551616
theorem uu_range (n : Int) : 0 ≤ uu n ∧ uu n < 18446744073709551616 := by unfold uu; omega
def num (n : Int) : List Tr := leB 8 (uu n)
theorem num_len (n : Int) : (num n).length = 8 := leB_len _ _
theorem wrap_uu (n : Int) : IntKind.wrap .u64 n = uu n := by rw [IntKind.wrap_u64]; rfl
theorem k_number (n : Int) : ACalls PP GG F.ref20_number [ti n] [] fun r H' => r = .sl 0 0 [] 0 8 none ∧ H' = [.row 1 (num n)] := by
  refine K.ref20_number.callsC rfl ?_
  (conv => arg 3; whnf); repeat (first | ((with_reducible refine sat_brT ?_ ?_); rfl; conv => arg 3; whnf) | ((with_reducible refine sat_brF ?_ ?_); rfl; conv => arg 3; whnf) | ((with_reducible refine sat_eqv ?_ ?_); rfl; conv => arg 3; whnf))
  refine sat_rngw ?_
  rw [wrap_uu]
  (conv => arg 3; whnf); repeat (first | ((with_reducible refine sat_brT ?_ ?_); rfl; conv => arg 3; whnf) | ((with_reducible refine sat_brF ?_ ?_); rfl; conv => arg 3; whnf) | ((with_reducible refine sat_eqv ?_ ?_); rfl; conv => arg 3; whnf))
  refine sat_call (k_low (uu n) (uu_range n) 8 (by omega)) ?_
  rintro r H' ⟨rfl, rfl⟩
  (conv => arg 3; whnf); repeat (first | ((with_reducible refine sat_brT ?_ ?_); rfl; conv => arg 3; whnf) | ((with_reducible refine sat_brF ?_ ?_); rfl; conv => arg 3; whnf) | ((with_reducible refine sat_eqv ?_ ?_); rfl; conv => arg 3; whnf))
  exact sat_ret ⟨rfl, rfl⟩
def mkB (y : Bool) : List Tr := [u8 (if y then 1 else 0)]
theorem k_rmark (y : Bool) : ACalls PP GG F.ref20_mark [tb y] [] fun r H' => r = .sl 0 0 [] 0 1 (some 1) ∧ H' = [.row 1 (mkB y)] := by
  refine K.ref20_mark.callsC rfl ?_
  cases y
  · (conv => arg 3; whnf); repeat (first | ((with_reducible refine sat_brT ?_ ?_); rfl; conv => arg 3; whnf) | ((with_reducible refine sat_brF ?_ ?_); rfl; conv => arg 3; whnf) | ((with_reducible refine sat_eqv ?_ ?_); rfl; conv => arg 3; whnf))
    exact sat_ret ⟨rfl, rfl⟩
  · (conv => arg 3; whnf); repeat (first | ((with_reducible refine sat_brT ?_ ?_); rfl; conv => arg 3; whnf) | ((with_reducible refine sat_brF ?_ ?_); rfl; conv => arg 3; whnf) | ((with_reducible refine sat_eqv ?_ ?_); rfl; conv => arg 3; whnf))
    exact sat_ret ⟨rfl, rfl⟩
/-! the writer -/
structure Wr where
  b : List Tr
  long : Bool
abbrev Wr.v (w : Wr) (c : Nat) : AO := .var (.agg [.sl c 0 [] 0 w.b.length none, tb w.long])
abbrev Wr.H (w : Wr) : Hp := [w.v 1, .row 1 w.b]
abbrev Wr.H' (w : Wr) : Hp := [w.v 2, .gone, .row 1 w.b]
def Wr.put (w : Wr) (xs : List Tr) : Wr := { w with b := w.b ++ xs }
theorem Wr.put_nil (w : Wr) : w.put [] = w := by simp [Wr.put]
theorem Wr.put_put (w : Wr) (xs ys : List Tr) : (w.put xs).put ys = w.put (xs ++ ys) := by simp [Wr.put]
structure FxSt (w : Wr) (L : List Tr) where
  i : Nat
  W : Wr
  eq : W = w.put (L.take i)
  le : i ≤ L.length
theorem k_fixed (w : Wr) (hw : w.b.length ≤ 2 ^ 40) (n : Int) (hn : 0 ≤ n ∧ n < 18446744073709551616) (k : Nat) (hk : k ≤ 8) : ACalls PP GG F.pack_writer_fixed [pt 0, tu n, ti k] w.H fun r H' => r = .tup [] ∧ H' = (w.put (leB k n)).H' := by
  have hkl := leB_len k n
  refine K.pack_writer_fixed.callsC rfl ?_
  (conv => arg 3; whnf); repeat (first | ((with_reducible refine sat_brT ?_ ?_); rfl; conv => arg 3; whnf) | ((with_reducible refine sat_brF ?_ ?_); rfl; conv => arg 3; whnf) | ((with_reducible refine sat_eqv ?_ ?_); rfl; conv => arg 3; whnf))
  refine sat_loopOf mkX_ops (σ := FxSt w (leB k n)) (fun x => [(0, pt 0), (1, tu (d256 x.i n)), (6, ti k), (7, ti x.i)]) (fun x => x.W.H) (fun x => k - x.i)
      (fun ex fr' H' => H' = (w.put (leB k n)).H ∧ ex = .exit 0 ∧ fr' = []) ⟨0, w, w.put_nil.symm, Nat.zero_le _⟩ ?_ ?_
  · rintro ⟨i, W, heq, hi⟩
    have hWl : W.b.length ≤ 2 ^ 40 + 8 := by rw [heq]; simp [Wr.put]; omega
    dsimp only
    refine sat_br (fun h => ?_) (fun h => ?_)
    · have h : i < k := by have := of_decide_eq_true h; omega
      have hd := d256_range hn i
      have hg := leB_get k i n h
      (conv => arg 3; whnf); repeat (first | ((with_reducible refine sat_brT ?_ ?_); rfl; conv => arg 3; whnf) | ((with_reducible refine sat_brF ?_ ?_); rfl; conv => arg 3; whnf) | ((with_reducible refine sat_eqv ?_ ?_); rfl; conv => arg 3; whnf))
      refine sat_rngw ?_
      rw [IntKind.wrap_u8]
      (conv => arg 3; whnf); repeat (first | ((with_reducible refine sat_brT ?_ ?_); rfl; conv => arg 3; whnf) | ((with_reducible refine sat_brF ?_ ?_); rfl; conv => arg 3; whnf) | ((with_reducible refine sat_eqv ?_ ?_); rfl; conv => arg 3; whnf))
      refine sat_asrt (by simp) ?_
      refine sat_asrt (by simp [roomy]; omega) ?_
      refine sat_brT (by simp) ?_
      (conv => arg 3; whnf); repeat (first | ((with_reducible refine sat_brT ?_ ?_); rfl; conv => arg 3; whnf) | ((with_reducible refine sat_brF ?_ ?_); rfl; conv => arg 3; whnf) | ((with_reducible refine sat_eqv ?_ ?_); rfl; conv => arg 3; whnf))
      refine sat_asrt rfl ?_
      (conv => arg 3; whnf); repeat (first | ((with_reducible refine sat_brT ?_ ?_); rfl; conv => arg 3; whnf) | ((with_reducible refine sat_brF ?_ ?_); rfl; conv => arg 3; whnf) | ((with_reducible refine sat_eqv ?_ ?_); rfl; conv => arg 3; whnf))
      refine sat_rng (wrap64 (by omega) (by omega)) ?_
      have e1 : (leB k n).take i ++ [u8 (d256 i n % 256)] = (leB k n).take (i + 1) := (take_succ_get hg).symm
      refine sat_ret ⟨⟨i + 1, W.put [u8 (d256 i n % 256)], by rw [heq, Wr.put_put, e1], by omega⟩, ?_, ?_, by show k - (i + 1) < k - i; omega⟩
      · have e2 : d256 (i + 1) n = (d256 i n).fdiv (2 ^ 8) := by rw [Int.fdiv_eq_ediv_of_nonneg _ (by decide)]; rfl
        show _ = [(0, pt 0), (1, tu (d256 (i + 1) n)), (6, ti k), (7, ti ((i + 1 : Nat) : Int))]
        rw [e2]
        rfl
      · rfl
    · have h : ¬ i < k := by have := of_decide_eq_false h; omega
      have : (leB k n).take i = leB k n := List.take_of_length_le (by omega)
      rw [this] at heq
      exact sat_ret ⟨by rw [heq], rfl, rfl⟩
  · rintro ex fr' H' ⟨rfl, rfl, rfl⟩
    (conv => arg 3; whnf); repeat (first | ((with_reducible refine sat_brT ?_ ?_); rfl; conv => arg 3; whnf) | ((with_reducible refine sat_brF ?_ ?_); rfl; conv => arg 3; whnf) | ((with_reducible refine sat_eqv ?_ ?_); rfl; conv => arg 3; whnf))
    exact sat_ret ⟨rfl, rfl⟩
end Stk
