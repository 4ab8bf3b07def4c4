/- ShaParts: the law's contract. -/
import Derived.Test.YtidggdjonahmkaaDoorSums
namespace Stk
open Go
set_option maxRecDepth 100000
set_option linter.unusedSimpArgs false
set_option linter.unusedVariables false
set_option maxHeartbeats 8000000
/-- The bytes of a part. -/
def elB : Tr → List Tr
  | .sl _ _ L => L
  | _ => []
/-- The first i parts, one behind the other. -/
def cat (xs : List Tr) (i : Nat) : List Tr := (xs.take i).flatMap elB
structure PartsOk (xs : List Tr) : Prop where
  h : ∀ y ∈ xs, ∃ g L, y = .sl g 1 L ∧ AllB L ∧ L.length ≤ 2 ^ 47
  l : xs.length ≤ 2 ^ 47
theorem parts_of {x : Tr} (h : TrD (.sl 1 (.sl 1 (.int .u8))) x) : ∃ f xs, x = .sl f 1 xs ∧ PartsOk xs := by
  obtain ⟨f, xs, rfl, _, h1, h2⟩ := h
  have h1' : xs.length * 1 ≤ 140737488351232 ∨ xs.length * 24 ≤ 140737488351232 := by
    first | exact .inl h1 | exact .inr h1
  refine ⟨f, xs, rfl, fun y hy => ?_, by omega⟩
  obtain ⟨g, L, rfl, hb, hl⟩ := bytes_of (h2 y hy)
  exact ⟨g, L, rfl, hb, hl⟩
theorem PartsOk.get {xs : List Tr} (h : PartsOk xs) {i : Nat} (hi : i < xs.length) : ∃ g L, xs[i]? = some (.sl g 1 L) ∧ AllB L ∧ L.length ≤ 2 ^ 47 ∧ cat xs (i + 1) = cat xs i ++ L := by
  obtain ⟨g, L, e, hb, hl⟩ := h.h _ (List.getElem_mem hi)
  refine ⟨g, L, by rw [List.getElem?_eq_getElem hi, e], hb, hl, ?_⟩
  unfold cat
  rw [List.take_add_one, List.getElem?_eq_getElem hi, e, List.flatMap_append]
  simp [elB]
theorem cat_b {xs : List Tr} (h : PartsOk xs) (i : Nat) : AllB (cat xs i) := fun y hy => by
  obtain ⟨z, hz, hy⟩ := List.mem_flatMap.1 hy
  obtain ⟨g, L, rfl, hb, _⟩ := h.h z (List.mem_of_mem_take hz)
  exact hb y hy
theorem cat_le (xs : List Tr) {i j : Nat} (h : i ≤ j) : (cat xs i).length ≤ (cat xs j).length := by
  unfold cat
  rw [← List.take_append_drop i (xs.take j), List.take_take, Nat.min_eq_left h, List.flatMap_append, List.length_append]
  omega
structure P0St (xs : List Tr) where
  i : Nat
  im : i ≤ xs.length
structure P2St (xs : List Tr) where
  i : Nat
  im : i ≤ xs.length
  wt : List Tr
  A : List Tr
  e : A = cat xs i
  di : DI A wt
structure SpSt (n : Nat) where
  k : Nat
  ys : List Tr
  l : ys.length = n
  b : AllB ys
theorem AllB.set {L : List Tr} (h : AllB L) (i : Nat) {v : Int} (hv : 0 ≤ v ∧ v ≤ 255) : AllB (L.set i (u8 v)) := fun y hy => by
  rcases List.mem_or_eq_of_mem_set hy with hy | rfl
  · exact h y hy
  · exact ⟨v, rfl, hv⟩
theorem l_parts (x0 x1 : Tr) (h0 : TrD (.sl 1 (.sl 1 (.int .u8))) x0) (h1 : TrD (.sl 1 (.int .u8)) x1) : ACalls PP GG F.law17_ShaParts (toAVs [x0, x1]) [] fun r _ => r = .t (.bool true) := by
  obtain ⟨f, xs, rfl, hx⟩ := parts_of h0
  obtain ⟨f', O, rfl, hO, hOl⟩ := bytes_of h1
  have hxl := hx.l
  refine K.law17_ShaParts.callsC rfl ?_
  (conv => arg 3; whnf); repeat (first | ((with_reducible refine sat_brT ?_ ?_); rfl; conv => arg 3; whnf) | ((with_reducible refine sat_brF ?_ ?_); rfl; conv => arg 3; whnf) | ((with_reducible refine sat_eqv ?_ ?_); rfl; conv => arg 3; whnf))
  refine sat_rng (wrap64 (by omega) (by omega)) ?_
  (conv => arg 3; whnf); repeat (first | ((with_reducible refine sat_brT ?_ ?_); rfl; conv => arg 3; whnf) | ((with_reducible refine sat_brF ?_ ?_); rfl; conv => arg 3; whnf) | ((with_reducible refine sat_eqv ?_ ?_); rfl; conv => arg 3; whnf))
  refine sat_loopOf mkX_ops (σ := P0St xs) (fun s => [(0, .t (.sl f 1 xs)), (1, .t (.sl f' 1 O)), (5, ti (O.length + xs.length + (cat xs s.i).length)), (6, ti s.i)]) (fun s => []) (fun s => xs.length - s.i)
    (fun ex fr' H' => ex = .exit 0 ∧ H' = [] ∧ ∃ n : Int, fr' = [(0, .t (.sl f 1 xs)), (1, .t (.sl f' 1 O)), (5, ti n)] ∧ (n ≤ 4000 → O.length + (cat xs xs.length).length ≤ 4000)) ⟨0, Nat.zero_le _⟩ ?_ ?_
  · rintro ⟨i, im⟩
    dsimp only
    have hci := hx.get (i := i)
    refine sat_br (fun hi => ?_) (fun hi => ?_)
    rotate_left
    · have hi : i = xs.length := by have := of_decide_eq_false hi; omega
      subst hi
      (conv => arg 3; whnf); repeat (first | ((with_reducible refine sat_brT ?_ ?_); rfl; conv => arg 3; whnf) | ((with_reducible refine sat_brF ?_ ?_); rfl; conv => arg 3; whnf) | ((with_reducible refine sat_eqv ?_ ?_); rfl; conv => arg 3; whnf))
      exact sat_ret ⟨rfl, rfl, _, rfl, fun h => by omega⟩
    have hi : i < xs.length := by have := of_decide_eq_true hi; omega
    (conv => arg 3; whnf); repeat (first | ((with_reducible refine sat_brT ?_ ?_); rfl; conv => arg 3; whnf) | ((with_reducible refine sat_brF ?_ ?_); rfl; conv => arg 3; whnf) | ((with_reducible refine sat_eqv ?_ ?_); rfl; conv => arg 3; whnf))
    refine sat_br (fun h4 => ?_) (fun h4 => ?_)
    rotate_left
    · have h4 := of_decide_eq_false h4
      (conv => arg 3; whnf); repeat (first | ((with_reducible refine sat_brT ?_ ?_); rfl; conv => arg 3; whnf) | ((with_reducible refine sat_brF ?_ ?_); rfl; conv => arg 3; whnf) | ((with_reducible refine sat_eqv ?_ ?_); rfl; conv => arg 3; whnf))
      exact sat_ret ⟨rfl, rfl, _, rfl, fun h => absurd h h4⟩
    have h4 := of_decide_eq_true h4
    obtain ⟨g, L, e1, hb, hl, hc⟩ := hci hi
    (conv => arg 3; whnf); repeat (first | ((with_reducible refine sat_brT ?_ ?_); rfl; conv => arg 3; whnf) | ((with_reducible refine sat_brF ?_ ?_); rfl; conv => arg 3; whnf) | ((with_reducible refine sat_eqv ?_ ?_); rfl; conv => arg 3; whnf))
    refine sat_idx _ (by omega) (by rw [Int.toNat_natCast]; exact e1) ?_
    (conv => arg 3; whnf); repeat (first | ((with_reducible refine sat_brT ?_ ?_); rfl; conv => arg 3; whnf) | ((with_reducible refine sat_brF ?_ ?_); rfl; conv => arg 3; whnf) | ((with_reducible refine sat_eqv ?_ ?_); rfl; conv => arg 3; whnf))
    refine sat_rng (wrap64 (by omega) (by omega)) ?_
    (conv => arg 3; whnf); repeat (first | ((with_reducible refine sat_brT ?_ ?_); rfl; conv => arg 3; whnf) | ((with_reducible refine sat_brF ?_ ?_); rfl; conv => arg 3; whnf) | ((with_reducible refine sat_eqv ?_ ?_); rfl; conv => arg 3; whnf))
    refine sat_rng (wrap64 (by omega) (by omega)) ?_
    refine sat_ret ⟨⟨i + 1, hi⟩, ?_, rfl, by show xs.length - (i + 1) < xs.length - i; omega⟩
    dsimp only
    rw [hc, List.length_append]
    rw [show ((O.length : Int) + xs.length + ((cat xs i).length + L.length : Nat)) = O.length + xs.length + (cat xs i).length + L.length by omega]
    rfl
  · rintro ex fr' H' ⟨rfl, rfl, n, rfl, hn⟩
    (conv => arg 3; whnf); repeat (first | ((with_reducible refine sat_brT ?_ ?_); rfl; conv => arg 3; whnf) | ((with_reducible refine sat_brF ?_ ?_); rfl; conv => arg 3; whnf) | ((with_reducible refine sat_eqv ?_ ?_); rfl; conv => arg 3; whnf))
    refine sat_br (fun h => ?_) (fun h => ?_)
    · (conv => arg 3; whnf); repeat (first | ((with_reducible refine sat_brT ?_ ?_); rfl; conv => arg 3; whnf) | ((with_reducible refine sat_brF ?_ ?_); rfl; conv => arg 3; whnf) | ((with_reducible refine sat_eqv ?_ ?_); rfl; conv => arg 3; whnf))
      refine sat_call k_wakes ?_
      rintro r H' ⟨rfl, rfl⟩
      (conv => arg 3; whnf); repeat (first | ((with_reducible refine sat_brT ?_ ?_); rfl; conv => arg 3; whnf) | ((with_reducible refine sat_brF ?_ ?_); rfl; conv => arg 3; whnf) | ((with_reducible refine sat_eqv ?_ ?_); rfl; conv => arg 3; whnf))
      exact sat_ret rfl
    have hn := hn (by have := of_decide_eq_false h; omega)
    (conv => arg 3; whnf); repeat (first | ((with_reducible refine sat_brT ?_ ?_); rfl; conv => arg 3; whnf) | ((with_reducible refine sat_brF ?_ ?_); rfl; conv => arg 3; whnf) | ((with_reducible refine sat_eqv ?_ ?_); rfl; conv => arg 3; whnf))
    refine sat_call k_new ?_
    rintro r H' ⟨rfl, rfl⟩
    (conv => arg 3; whnf); repeat (first | ((with_reducible refine sat_brT ?_ ?_); rfl; conv => arg 3; whnf) | ((with_reducible refine sat_brF ?_ ?_); rfl; conv => arg 3; whnf) | ((with_reducible refine sat_eqv ?_ ?_); rfl; conv => arg 3; whnf))
    refine sat_loopOf mkX_ops (σ := P2St xs) (fun s => [(0, .t (.sl f 1 xs)), (1, .t (.sl f' 1 O)), (7, pt 0), (8, .sl 1 0 [] 0 s.A.length none), (9, ti s.i)]) (fun s => [.var (.t (dG s.A s.wt)), .row 1 s.A]) (fun s => xs.length - s.i)
      (fun ex fr' H' => ex = .exit 2 ∧ ∃ A wt, A = cat xs xs.length ∧ DI A wt ∧ fr' = [(1, .t (.sl f' 1 O)), (4, .undef), (7, pt 0), (8, .sl 1 0 [] 0 A.length none)] ∧ H' = [.var (.t (dG A wt)), .row 1 A]) ⟨0, Nat.zero_le _, w0, [], rfl, di0⟩ ?_ ?_
    · rintro ⟨i, im, wt, A, hA, di⟩
      dsimp only
      refine sat_br (fun hi => ?_) (fun hi => ?_)
      rotate_left
      · have hi : i = xs.length := by have := of_decide_eq_false hi; omega
        subst hi
        (conv => arg 3; whnf); repeat (first | ((with_reducible refine sat_brT ?_ ?_); rfl; conv => arg 3; whnf) | ((with_reducible refine sat_brF ?_ ?_); rfl; conv => arg 3; whnf) | ((with_reducible refine sat_eqv ?_ ?_); rfl; conv => arg 3; whnf))
        exact sat_ret ⟨rfl, A, wt, hA, di, rfl, rfl⟩
      have hi : i < xs.length := by have := of_decide_eq_true hi; omega
      obtain ⟨g, L, e1, hb, hl, hc⟩ := hx.get hi
      have hle := cat_le xs (show i + 1 ≤ xs.length by omega)
      have hcb := cat_b hx (i + 1)
      rw [hc, ← hA] at hle hcb
      rw [List.length_append] at hle
      (conv => arg 3; whnf); repeat (first | ((with_reducible refine sat_brT ?_ ?_); rfl; conv => arg 3; whnf) | ((with_reducible refine sat_brF ?_ ?_); rfl; conv => arg 3; whnf) | ((with_reducible refine sat_eqv ?_ ?_); rfl; conv => arg 3; whnf))
      refine sat_idx _ (by omega) (by rw [Int.toNat_natCast]; exact e1) ?_
      (conv => arg 3; whnf); repeat (first | ((with_reducible refine sat_brT ?_ ?_); rfl; conv => arg 3; whnf) | ((with_reducible refine sat_brF ?_ ?_); rfl; conv => arg 3; whnf) | ((with_reducible refine sat_eqv ?_ ?_); rfl; conv => arg 3; whnf))
      refine sat_asrt (by simp [roomy]; omega) ?_
      (conv => arg 3; whnf); repeat (first | ((with_reducible refine sat_brT ?_ ?_); rfl; conv => arg 3; whnf) | ((with_reducible refine sat_brF ?_ ?_); rfl; conv => arg 3; whnf) | ((with_reducible refine sat_eqv ?_ ?_); rfl; conv => arg 3; whnf))
      rw [List.drop_zero, List.take_length]
      refine sat_call (k_write A L wt hb di (by omega)) ?_
      rintro r H' ⟨rfl, wt1, di1, rfl⟩
      (conv => arg 3; whnf); repeat (first | ((with_reducible refine sat_brT ?_ ?_); rfl; conv => arg 3; whnf) | ((with_reducible refine sat_brF ?_ ?_); rfl; conv => arg 3; whnf) | ((with_reducible refine sat_eqv ?_ ?_); rfl; conv => arg 3; whnf))
      refine sat_loopOf mkX_ops (σ := SpSt L.length) (fun s => [(0, .t (.sl f 1 xs)), (1, .t (.sl f' 1 O)), (7, pt 0), (8, .sl 1 0 [] 0 A.length none), (9, ti i), (10, .sl 2 0 [] 0 L.length none), (11, ti s.k)]) (fun s => [.var (.t (dG (A ++ L) wt1)), .row 1 A, .row 1 s.ys]) (fun s => L.length - s.k)
        (fun ex fr' H' => ex = .exit 4 ∧ fr' = [(0, .t (.sl f 1 xs)), (1, .t (.sl f' 1 O)), (7, pt 0), (8, .sl 1 0 [] 0 A.length none), (9, ti i)] ∧ ∃ ys, H' = [.var (.t (dG (A ++ L) wt1)), .row 1 A, .row 1 ys]) ⟨0, L, rfl, hb⟩ ?_ ?_
      · rintro ⟨k, ys, yl, yb⟩
        dsimp only
        refine sat_br (fun hk => ?_) (fun hk => ?_)
        · have hk : k < L.length := by have := of_decide_eq_true hk; omega
          obtain ⟨g1, g2⟩ := yb.get (show k < ys.length by omega)
          (conv => arg 3; whnf); repeat (first | ((with_reducible refine sat_brT ?_ ?_); rfl; conv => arg 3; whnf) | ((with_reducible refine sat_brF ?_ ?_); rfl; conv => arg 3; whnf) | ((with_reducible refine sat_eqv ?_ ?_); rfl; conv => arg 3; whnf))
          refine sat_asrt (decide_eq_true (by omega)) ?_
          (conv => arg 3; whnf); repeat (first | ((with_reducible refine sat_brT ?_ ?_); rfl; conv => arg 3; whnf) | ((with_reducible refine sat_brF ?_ ?_); rfl; conv => arg 3; whnf) | ((with_reducible refine sat_eqv ?_ ?_); rfl; conv => arg 3; whnf))
          refine sat_idx (u8 (gw ys k)) (by simp) (by simpa using g1) ?_
          (conv => arg 3; whnf); repeat (first | ((with_reducible refine sat_brT ?_ ?_); rfl; conv => arg 3; whnf) | ((with_reducible refine sat_brF ?_ ?_); rfl; conv => arg 3; whnf) | ((with_reducible refine sat_eqv ?_ ?_); rfl; conv => arg 3; whnf))
          refine sat_rng (wrap64 (by omega) (by omega)) ?_
          exact sat_ret ⟨⟨k + 1, ys.set k (u8 60), by rw [List.length_set]; exact yl, yb.set _ (by omega)⟩, rfl, by rw [Int.toNat_natCast, Nat.zero_add], by show L.length - (k + 1) < L.length - k; omega⟩
        · refine sat_ret ?_
          exact ⟨rfl, rfl, ys, rfl⟩
      · rintro ex fr' H' ⟨rfl, rfl, ys, rfl⟩
        (conv => arg 3; whnf); repeat (first | ((with_reducible refine sat_brT ?_ ?_); rfl; conv => arg 3; whnf) | ((with_reducible refine sat_brF ?_ ?_); rfl; conv => arg 3; whnf) | ((with_reducible refine sat_eqv ?_ ?_); rfl; conv => arg 3; whnf))
        refine sat_idx _ (by omega) (by rw [Int.toNat_natCast]; exact e1) ?_
        (conv => arg 3; whnf); repeat (first | ((with_reducible refine sat_brT ?_ ?_); rfl; conv => arg 3; whnf) | ((with_reducible refine sat_brF ?_ ?_); rfl; conv => arg 3; whnf) | ((with_reducible refine sat_eqv ?_ ?_); rfl; conv => arg 3; whnf))
        refine sat_asrt (by simp) ?_
        refine sat_asrt (by simp [roomy]; omega) ?_
        refine sat_brT (Nat.beq_refl _) ?_
        have hAL : A ++ L = cat xs (i + 1) := by rw [hc, hA]
        have hlen : (A ++ L).length = A.length + L.length := List.length_append
        have hfin : (A ++ L).length ≤ 4000 := by omega
        generalize A ++ L = B at di1 hAL hlen hcb hfin ⊢
        have kd := k_dsum B wt1 di1 (by omega)
        have ks := k_sum B hcb (by omega)
        have hf := fits_b (sha_b B) (sha_len B)
        have he := eqb_b (sha_b B)
        generalize shaL B = D at kd ks hf he
        (conv => arg 3; whnf); repeat (first | ((with_reducible refine sat_brT ?_ ?_); rfl; conv => arg 3; whnf) | ((with_reducible refine sat_brF ?_ ?_); rfl; conv => arg 3; whnf) | ((with_reducible refine sat_eqv ?_ ?_); rfl; conv => arg 3; whnf))
        refine sat_asrt rfl ?_
        (conv => arg 3; whnf); repeat (first | ((with_reducible refine sat_brT ?_ ?_); rfl; conv => arg 3; whnf) | ((with_reducible refine sat_brF ?_ ?_); rfl; conv => arg 3; whnf) | ((with_reducible refine sat_eqv ?_ ?_); rfl; conv => arg 3; whnf))
        refine sat_br (fun h3 => ?_) (fun h3 => ?_)
        · (conv => arg 3; whnf); repeat (first | ((with_reducible refine sat_brT ?_ ?_); rfl; conv => arg 3; whnf) | ((with_reducible refine sat_brF ?_ ?_); rfl; conv => arg 3; whnf) | ((with_reducible refine sat_eqv ?_ ?_); rfl; conv => arg 3; whnf))
          refine sat_call kd ?_
          rintro r H' ⟨rfl, rfl⟩
          (conv => arg 3; whnf); repeat (first | ((with_reducible refine sat_brT ?_ ?_); rfl; conv => arg 3; whnf) | ((with_reducible refine sat_brF ?_ ?_); rfl; conv => arg 3; whnf) | ((with_reducible refine sat_eqv ?_ ?_); rfl; conv => arg 3; whnf))
          rw [List.drop_zero, List.take_length]
          refine sat_call ks ?_
          rintro r H' ⟨rfl, rfl⟩
          (conv => arg 3; whnf); repeat (first | ((with_reducible refine sat_brT ?_ ?_); rfl; conv => arg 3; whnf) | ((with_reducible refine sat_brF ?_ ?_); rfl; conv => arg 3; whnf) | ((with_reducible refine sat_eqv ?_ ?_); rfl; conv => arg 3; whnf))
          refine sat_asrt (by rw [hf]; rfl) ?_
          rw [he]
          (conv => arg 3; whnf); repeat (first | ((with_reducible refine sat_brT ?_ ?_); rfl; conv => arg 3; whnf) | ((with_reducible refine sat_brF ?_ ?_); rfl; conv => arg 3; whnf) | ((with_reducible refine sat_eqv ?_ ?_); rfl; conv => arg 3; whnf))
          refine sat_rng (wrap64 (by omega) (by omega)) ?_
          exact sat_ret ⟨⟨i + 1, hi, wt1, B, hAL, di1⟩, rfl, rfl, by show xs.length - (i + 1) < xs.length - i; omega⟩
        · (conv => arg 3; whnf); repeat (first | ((with_reducible refine sat_brT ?_ ?_); rfl; conv => arg 3; whnf) | ((with_reducible refine sat_brF ?_ ?_); rfl; conv => arg 3; whnf) | ((with_reducible refine sat_eqv ?_ ?_); rfl; conv => arg 3; whnf))
          refine sat_rng (wrap64 (by omega) (by omega)) ?_
          exact sat_ret ⟨⟨i + 1, hi, wt1, B, hAL, di1⟩, rfl, rfl, by show xs.length - (i + 1) < xs.length - i; omega⟩
    · rintro ex fr' H' ⟨rfl, A, wt, hA, di, rfl, rfl⟩
      have hAb := cat_b hx xs.length
      rw [← hA] at hAb hn
      (conv => arg 3; whnf); repeat (first | ((with_reducible refine sat_brT ?_ ?_); rfl; conv => arg 3; whnf) | ((with_reducible refine sat_brF ?_ ?_); rfl; conv => arg 3; whnf) | ((with_reducible refine sat_eqv ?_ ?_); rfl; conv => arg 3; whnf))
      refine sat_call (k_copy A wt) ?_
      rintro r H' ⟨rfl, rfl⟩
      (conv => arg 3; whnf); repeat (first | ((with_reducible refine sat_brT ?_ ?_); rfl; conv => arg 3; whnf) | ((with_reducible refine sat_brF ?_ ?_); rfl; conv => arg 3; whnf) | ((with_reducible refine sat_eqv ?_ ?_); rfl; conv => arg 3; whnf))
      refine sat_call (k_write A O wt hO di (by omega)) ?_
      rintro r H' ⟨rfl, wt2, di2, rfl⟩
      have hAOl : (A ++ O).length = A.length + O.length := List.length_append
      have hAOb : AllB (A ++ O) := hAb.app hO
      have k1 := k_dsum A wt di (by omega)
      have k2 := k_dsum (A ++ O) wt2 di2 (by omega)
      have k3 := k_sum A hAb (by omega)
      have k4 := k_sum (A ++ O) hAOb (by omega)
      have f1 := fits_b (sha_b A) (sha_len A)
      have f2 := fits_b (sha_b (A ++ O)) (sha_len (A ++ O))
      have q1 := eqb_b (sha_b A)
      have q2 := eqb_b (sha_b (A ++ O))
      generalize shaL A = D1 at k1 k3 f1 q1
      generalize shaL (A ++ O) = D2 at k2 k4 f2 q2
      (conv => arg 3; whnf); repeat (first | ((with_reducible refine sat_brT ?_ ?_); rfl; conv => arg 3; whnf) | ((with_reducible refine sat_brF ?_ ?_); rfl; conv => arg 3; whnf) | ((with_reducible refine sat_eqv ?_ ?_); rfl; conv => arg 3; whnf))
      refine sat_call k1 ?_
      rintro r H' ⟨rfl, rfl⟩
      (conv => arg 3; whnf); repeat (first | ((with_reducible refine sat_brT ?_ ?_); rfl; conv => arg 3; whnf) | ((with_reducible refine sat_brF ?_ ?_); rfl; conv => arg 3; whnf) | ((with_reducible refine sat_eqv ?_ ?_); rfl; conv => arg 3; whnf))
      refine sat_call k2 ?_
      rintro r H' ⟨rfl, rfl⟩
      (conv => arg 3; whnf); repeat (first | ((with_reducible refine sat_brT ?_ ?_); rfl; conv => arg 3; whnf) | ((with_reducible refine sat_brF ?_ ?_); rfl; conv => arg 3; whnf) | ((with_reducible refine sat_eqv ?_ ?_); rfl; conv => arg 3; whnf))
      rw [List.drop_zero, List.take_length]
      refine sat_call k3 ?_
      rintro r H' ⟨rfl, rfl⟩
      (conv => arg 3; whnf); repeat (first | ((with_reducible refine sat_brT ?_ ?_); rfl; conv => arg 3; whnf) | ((with_reducible refine sat_brF ?_ ?_); rfl; conv => arg 3; whnf) | ((with_reducible refine sat_eqv ?_ ?_); rfl; conv => arg 3; whnf))
      refine sat_asrt (by simp [roomy]; omega) ?_
      (conv => arg 3; whnf); repeat (first | ((with_reducible refine sat_brT ?_ ?_); rfl; conv => arg 3; whnf) | ((with_reducible refine sat_brF ?_ ?_); rfl; conv => arg 3; whnf) | ((with_reducible refine sat_eqv ?_ ?_); rfl; conv => arg 3; whnf))
      rw [List.drop_zero, List.take_length]
      refine sat_asrt (by simp) ?_
      refine sat_asrt (by simp [roomy]; omega) ?_
      refine sat_brT (Nat.beq_refl _) ?_
      (conv => arg 3; whnf); repeat (first | ((with_reducible refine sat_brT ?_ ?_); rfl; conv => arg 3; whnf) | ((with_reducible refine sat_brF ?_ ?_); rfl; conv => arg 3; whnf) | ((with_reducible refine sat_eqv ?_ ?_); rfl; conv => arg 3; whnf))
      refine sat_asrt (by rw [f1]; rfl) ?_
      rw [q1]
      (conv => arg 3; whnf); repeat (first | ((with_reducible refine sat_brT ?_ ?_); rfl; conv => arg 3; whnf) | ((with_reducible refine sat_brF ?_ ?_); rfl; conv => arg 3; whnf) | ((with_reducible refine sat_eqv ?_ ?_); rfl; conv => arg 3; whnf))
      (try rw [List.drop_zero, List.take_length])
      repeat (first | (refine sat_asrt (by rw [f1]; rfl) ?_; (conv => arg 3; whnf); repeat (first | ((with_reducible refine sat_brT ?_ ?_); rfl; conv => arg 3; whnf) | ((with_reducible refine sat_brF ?_ ?_); rfl; conv => arg 3; whnf) | ((with_reducible refine sat_eqv ?_ ?_); rfl; conv => arg 3; whnf))) | (refine sat_asrt (by rw [f2]; rfl) ?_; (conv => arg 3; whnf); repeat (first | ((with_reducible refine sat_brT ?_ ?_); rfl; conv => arg 3; whnf) | ((with_reducible refine sat_brF ?_ ?_); rfl; conv => arg 3; whnf) | ((with_reducible refine sat_eqv ?_ ?_); rfl; conv => arg 3; whnf))))
      refine sat_call k4 ?_
      rintro r H' ⟨rfl, rfl⟩
      (conv => arg 3; whnf); repeat (first | ((with_reducible refine sat_brT ?_ ?_); rfl; conv => arg 3; whnf) | ((with_reducible refine sat_brF ?_ ?_); rfl; conv => arg 3; whnf) | ((with_reducible refine sat_eqv ?_ ?_); rfl; conv => arg 3; whnf))
      repeat (first | ((with_reducible refine sat_asrt ?_ ?_); (first | (rw [f1]; rfl) | (rw [f2]; rfl)); (conv => arg 3; whnf); repeat (first | ((with_reducible refine sat_brT ?_ ?_); rfl; conv => arg 3; whnf) | ((with_reducible refine sat_brF ?_ ?_); rfl; conv => arg 3; whnf) | ((with_reducible refine sat_eqv ?_ ?_); rfl; conv => arg 3; whnf))) | (rw [q1]; (conv => arg 3; whnf); repeat (first | ((with_reducible refine sat_brT ?_ ?_); rfl; conv => arg 3; whnf) | ((with_reducible refine sat_brF ?_ ?_); rfl; conv => arg 3; whnf) | ((with_reducible refine sat_eqv ?_ ?_); rfl; conv => arg 3; whnf))) | (rw [q2]; (conv => arg 3; whnf); repeat (first | ((with_reducible refine sat_brT ?_ ?_); rfl; conv => arg 3; whnf) | ((with_reducible refine sat_brF ?_ ?_); rfl; conv => arg 3; whnf) | ((with_reducible refine sat_eqv ?_ ?_); rfl; conv => arg 3; whnf))))
      refine sat_call k_wakes ?_
      rintro r H' ⟨rfl, rfl⟩
      (conv => arg 3; whnf); repeat (first | ((with_reducible refine sat_brT ?_ ?_); rfl; conv => arg 3; whnf) | ((with_reducible refine sat_brF ?_ ?_); rfl; conv => arg 3; whnf) | ((with_reducible refine sat_eqv ?_ ?_); rfl; conv => arg 3; whnf))
      repeat (first | ((with_reducible refine sat_asrt ?_ ?_); (first | (rw [f1]; rfl) | (rw [f2]; rfl)); (conv => arg 3; whnf); repeat (first | ((with_reducible refine sat_brT ?_ ?_); rfl; conv => arg 3; whnf) | ((with_reducible refine sat_brF ?_ ?_); rfl; conv => arg 3; whnf) | ((with_reducible refine sat_eqv ?_ ?_); rfl; conv => arg 3; whnf))) | (rw [q1]; (conv => arg 3; whnf); repeat (first | ((with_reducible refine sat_brT ?_ ?_); rfl; conv => arg 3; whnf) | ((with_reducible refine sat_brF ?_ ?_); rfl; conv => arg 3; whnf) | ((with_reducible refine sat_eqv ?_ ?_); rfl; conv => arg 3; whnf))) | (rw [q2]; (conv => arg 3; whnf); repeat (first | ((with_reducible refine sat_brT ?_ ?_); rfl; conv => arg 3; whnf) | ((with_reducible refine sat_brF ?_ ?_); rfl; conv => arg 3; whnf) | ((with_reducible refine sat_eqv ?_ ?_); rfl; conv => arg 3; whnf))))
      exact sat_ret rfl
end Stk
