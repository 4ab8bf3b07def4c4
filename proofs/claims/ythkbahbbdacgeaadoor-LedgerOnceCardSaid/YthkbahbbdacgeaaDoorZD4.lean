/- An image out of bytes, by the program. -/
import Derived.Test.YthkbahbbdacgeaaDoorZj10
namespace Stk
open Go
set_option maxRecDepth 100000
set_option linter.unusedSimpArgs false
set_option linter.unusedVariables false
set_option maxHeartbeats 4000000
theorem AllB.drop {L : List Tr} (h : AllB L) (n : Nat) : AllB (L.drop n) := fun y hy => h y (List.mem_of_mem_drop hy)
abbrev fnT : AV := .fn F.image_Decode_1 [] [pt 0, pt 2]
/-- The heap under way, maps alone. -/
def kV (R : List Tr) (s : Bool) (X : List Tr) : Nat → Hp
  | 0 => [.var (.bz 1 R), .var nilI, .var (.t (.bool s)), .var nilI]
  | _ + 1 => [.var (.bz 1 R), .var nilI, .var (.t (.bool s)), .var (.agg [.sl 4 0 [] 0 X.length none, .t (.sl true 5 [])]), .row 4 X]
/-- The heap under way, maps and places. -/
def kW (R : List Tr) (s : Bool) (X Y : List Tr) : Nat → Nat → Hp
  | 0, 0 => [.var (.bz 1 R), .var nilI, .var (.t (.bool s)), .var nilI]
  | 0, _ + 1 => [.var (.bz 1 R), .var nilI, .var (.t (.bool s)), .var (.agg [.t (.sl true 4 []), .sl 4 0 [] 0 Y.length none]), .row 5 Y]
  | _ + 1, 0 => [.var (.bz 1 R), .var nilI, .var (.t (.bool s)), .var (.agg [.sl 4 0 [] 0 X.length none, .t (.sl true 5 [])]), .row 4 X]
  | _ + 1, _ + 1 => [.var (.bz 1 R), .var nilI, .var (.t (.bool s)), .var (.agg [.sl 4 0 [] 0 X.length none, .sl 5 0 [] 0 Y.length none]), .row 4 X, .row 5 Y]
structure JSt (L : List Tr) (m : Nat) where
  i : Nat
  R : List Tr
  s : Bool
  X : List Tr
  im : i ≤ m
  xl : X.length = i
  no : s = false → R = L.drop (1 + 4 * i) ∧ X = mapsAt L i ∧ 1 + 4 * i ≤ L.length
  yes : s = true → R.length < 4 ∧ L.length < 1 + 4 * m
structure JSu (L : List Tr) (m p : Nat) where
  i : Nat
  R : List Tr
  s : Bool
  Y : List Tr
  im : i ≤ p
  yl : Y.length = i
  no : s = false → R = L.drop (1 + 4 * m + 2 + 8 * i) ∧ Y = insnAt L (1 + 4 * m + 2) i ∧ 1 + 4 * m + 2 + 8 * i ≤ L.length
  yes : s = true → R.length < 8 ∧ L.length < 1 + 4 * m + 2 + 8 * p
theorem take8 {L : List Tr} (h : AllB L) {a : Nat} (ha : a + 8 ≤ L.length) : (L.drop a).take 8 = l8 (byt L a) (byt L (a + 1)) (byt L (a + 2)) (byt L (a + 3)) (byt L (a + 4)) (byt L (a + 5)) (byt L (a + 6)) (byt L (a + 7)) := by
  rw [List.take_drop, cut8 h ha]
theorem k_decode (L : List Tr) (hL : AllB L) (hl : L.length ≤ 2 ^ 47) : ACalls PP GG F.image_Decode [.bz 1 L] [] fun r H' => r = .tup [(decB L).1.v.1, ti (decB L).2] ∧ H' = (decB L).1.v.2 := by
  refine K.image_Decode.callsC rfl ?_
  (conv => arg 3; whnf); repeat ((first | (with_reducible apply sT); rfl | (with_reducible apply sF); rfl | (with_reducible apply sE); rfl); conv => arg 3; whnf)
  refine sat_br (fun h => ?_) (fun h => ?_)
  · have h := of_decide_eq_true h
    have e : decB L = (im0, 3) := by unfold decB; rw [if_pos (by omega)]
    rw [e]
    (conv => arg 3; whnf); repeat ((first | (with_reducible apply sT); rfl | (with_reducible apply sF); rfl | (with_reducible apply sE); rfl); conv => arg 3; whnf)
    exact sat_ret ⟨rfl, rfl⟩
  have h3 := of_decide_eq_false h
  (conv => arg 3; whnf); repeat ((first | (with_reducible apply sT); rfl | (with_reducible apply sF); rfl | (with_reducible apply sE); rfl); conv => arg 3; whnf)
  rcases Nat.lt_or_ge L.length 1 with h | h4
  · have e : decB L = (im0, 4) := by unfold decB; rw [if_neg (by omega), if_pos (by omega)]
    rw [e]
    refine sat_call (k_take_no L false 1 (by omega) h) ?_
    rintro r H' ⟨rfl, rfl⟩
    (conv => arg 3; whnf); repeat ((first | (with_reducible apply sT); rfl | (with_reducible apply sF); rfl | (with_reducible apply sE); rfl); conv => arg 3; whnf)
    refine sat_asrt (by simp) ?_
    (conv => arg 3; whnf); repeat ((first | (with_reducible apply sT); rfl | (with_reducible apply sF); rfl | (with_reducible apply sE); rfl); conv => arg 3; whnf)
    refine sat_idx (u8 0) (by simp) (by simp) ?_
    (conv => arg 3; whnf); repeat ((first | (with_reducible apply sT); rfl | (with_reducible apply sF); rfl | (with_reducible apply sE); rfl); conv => arg 3; whnf)
    refine sat_rng (wrap64 (by omega) (by omega)) ?_
    (conv => arg 3; whnf); repeat ((first | (with_reducible apply sT); rfl | (with_reducible apply sF); rfl | (with_reducible apply sE); rfl); conv => arg 3; whnf)
    exact sat_ret ⟨rfl, rfl⟩
  refine sat_call (k_take L false 1 (by omega) h4) ?_
  rintro r H' ⟨rfl, rfl⟩
  obtain ⟨g0, r0⟩ := hL.getB (show 0 < L.length by omega)
  obtain ⟨m, hm⟩ : ∃ m : Nat, byt L 0 = m := ⟨(byt L 0).toNat, by omega⟩
  rw [hm] at g0
  (conv => arg 3; whnf); repeat ((first | (with_reducible apply sT); rfl | (with_reducible apply sF); rfl | (with_reducible apply sE); rfl); conv => arg 3; whnf)
  refine sat_idx (u8 m) (by simp) (by rw [List.getElem?_take, if_pos (by decide)]; exact g0) ?_
  (conv => arg 3; whnf); repeat ((first | (with_reducible apply sT); rfl | (with_reducible apply sF); rfl | (with_reducible apply sE); rfl); conv => arg 3; whnf)
  refine sat_rng (wrap64 (by omega) (by omega)) ?_
  (conv => arg 3; whnf); repeat ((first | (with_reducible apply sT); rfl | (with_reducible apply sF); rfl | (with_reducible apply sE); rfl); conv => arg 3; whnf)
  refine sat_br (fun h => ?_) (fun h => ?_)
  · have h := of_decide_eq_true h
    have e : decB L = (im0, 5) := by unfold decB; rw [hm]; rw [if_neg (by omega), if_neg (by omega), if_pos (by omega)]
    rw [e]
    (conv => arg 3; whnf); repeat ((first | (with_reducible apply sT); rfl | (with_reducible apply sF); rfl | (with_reducible apply sE); rfl); conv => arg 3; whnf)
    exact sat_ret ⟨rfl, rfl⟩
  have h5 := of_decide_eq_false h
  have hm4 : m ≤ 4 := by omega
  (conv => arg 3; whnf); repeat ((first | (with_reducible apply sT); rfl | (with_reducible apply sF); rfl | (with_reducible apply sE); rfl); conv => arg 3; whnf)
  refine sat_loopOf mkX_ops (σ := JSt L m) (fun s => [(1, pt 0), (2, pt 1), (4, pt 2), (5, fnT), (6, pt 3), (27, ti m), (28, ti s.i)]) (fun s => kV s.R s.s s.X s.i) (fun s => m - s.i)
    (fun ex fr' H' => ex = .exit 0 ∧ fr' = [(1, pt 0), (2, pt 1), (4, pt 2), (5, fnT), (6, pt 3)] ∧ ∃ R s X, H' = kV R s X m ∧ X.length = m ∧ (s = false → R = L.drop (1 + 4 * m) ∧ X = mapsAt L m ∧ 1 + 4 * m ≤ L.length) ∧ (s = true → R.length < 4 ∧ L.length < 1 + 4 * m)) ⟨0, L.drop 1, false, [], Nat.zero_le _, rfl, fun _ => ⟨rfl, rfl, by omega⟩, fun h => by cases h⟩ ?_ ?_
  · rintro ⟨i, R, s, X, im, xl, no, yes⟩
    dsimp only
    cases i with
    | zero =>
      have xn : X = [] := List.eq_nil_of_length_eq_zero xl
      subst xn
      refine sat_br (fun hi => ?_) (fun hi => ?_)
      · have hi : 0 < m := by have := of_decide_eq_true hi; omega
        rcases Nat.lt_or_ge R.length 4 with hR | hR
        · have hyes : L.length < 1 + 4 * m := by
            cases s with
            | true => exact (yes rfl).2
            | false => obtain ⟨h1, _, h2⟩ := no rfl; rw [h1, List.length_drop] at hR; omega
          (conv => arg 3; whnf); repeat ((first | (with_reducible apply sT); rfl | (with_reducible apply sF); rfl | (with_reducible apply sE); rfl); conv => arg 3; whnf)
          refine sat_call (k_take_no R s 4 (by omega) hR) ?_
          rintro r H' ⟨rfl, rfl⟩
          (conv => arg 3; whnf); repeat ((first | (with_reducible apply sT); rfl | (with_reducible apply sF); rfl | (with_reducible apply sE); rfl); conv => arg 3; whnf)
          refine sat_asrt (by simp) ?_
          (conv => arg 3; whnf); repeat ((first | (with_reducible apply sT); rfl | (with_reducible apply sF); rfl | (with_reducible apply sE); rfl); conv => arg 3; whnf)
          refine sat_idx (u8 0) (by simp) (by simp) ?_
          (conv => arg 3; whnf); repeat ((first | (with_reducible apply sT); rfl | (with_reducible apply sF); rfl | (with_reducible apply sE); rfl); conv => arg 3; whnf)
          refine sat_rng (wrap64 (by omega) (by omega)) ?_
          (conv => arg 3; whnf); repeat ((first | (with_reducible apply sT); rfl | (with_reducible apply sF); rfl | (with_reducible apply sE); rfl); conv => arg 3; whnf)
          refine sat_asrt (by simp) ?_
          (conv => arg 3; whnf); repeat ((first | (with_reducible apply sT); rfl | (with_reducible apply sF); rfl | (with_reducible apply sE); rfl); conv => arg 3; whnf)
          refine sat_idx (u8 0) (by simp) (by simp) ?_
          (conv => arg 3; whnf); repeat ((first | (with_reducible apply sT); rfl | (with_reducible apply sF); rfl | (with_reducible apply sE); rfl); conv => arg 3; whnf)
          refine sat_rng (wrap64 (by omega) (by omega)) ?_
          (conv => arg 3; whnf); repeat ((first | (with_reducible apply sT); rfl | (with_reducible apply sF); rfl | (with_reducible apply sE); rfl); conv => arg 3; whnf)
          refine sat_asrt (by simp) ?_
          (conv => arg 3; whnf); repeat ((first | (with_reducible apply sT); rfl | (with_reducible apply sF); rfl | (with_reducible apply sE); rfl); conv => arg 3; whnf)
          refine sat_idx (u8 0) (by simp) (by simp) ?_
          (conv => arg 3; whnf); repeat ((first | (with_reducible apply sT); rfl | (with_reducible apply sF); rfl | (with_reducible apply sE); rfl); conv => arg 3; whnf)
          refine sat_rng (wrap64 (by omega) (by omega)) ?_
          (conv => arg 3; whnf); repeat ((first | (with_reducible apply sT); rfl | (with_reducible apply sF); rfl | (with_reducible apply sE); rfl); conv => arg 3; whnf)
          refine sat_asrt (by simp) ?_
          (conv => arg 3; whnf); repeat ((first | (with_reducible apply sT); rfl | (with_reducible apply sF); rfl | (with_reducible apply sE); rfl); conv => arg 3; whnf)
          refine sat_idx (u8 0) (by simp) (by simp) ?_
          (conv => arg 3; whnf); repeat ((first | (with_reducible apply sT); rfl | (with_reducible apply sF); rfl | (with_reducible apply sE); rfl); conv => arg 3; whnf)
          refine sat_rng (wrap64 (by omega) (by omega)) ?_
          (conv => arg 3; whnf); repeat ((first | (with_reducible apply sT); rfl | (with_reducible apply sF); rfl | (with_reducible apply sE); rfl); conv => arg 3; whnf)
          refine sat_asrt (by simp [roomy]) ?_
          (conv => arg 3; whnf); repeat ((first | (with_reducible apply sT); rfl | (with_reducible apply sF); rfl | (with_reducible apply sE); rfl); conv => arg 3; whnf)
          refine sat_rng (wrap64 (by omega) (by omega)) ?_
          exact sat_ret ⟨⟨1, R, true, [mpT 0 0 0 0], hi, rfl, (fun h => by cases h), fun _ => ⟨hR, hyes⟩⟩, rfl, rfl, by show m - (1) < m - 0; omega⟩
        · have hs : s = false := by
            cases s with
            | true => have := (yes rfl).1; omega
            | false => rfl
          obtain ⟨h1, h2, h3'⟩ := no hs
          have hL4 : 1 + 4 * 0 + 4 ≤ L.length := by rw [h1, List.length_drop] at hR; omega
          have q1 : (List.take 4 R)[(0 : Int).toNat]? = some (u8 (byt L (1 + 4 * 0))) := by rw [List.getElem?_take, if_pos (by decide), h1, List.getElem?_drop]; exact (hL.getB (by omega)).1
          have q2 : (List.take 4 R)[(1 : Int).toNat]? = some (u8 (byt L (2 + 4 * 0))) := by rw [List.getElem?_take, if_pos (by decide), h1, List.getElem?_drop, show 1 + 4 * 0 + Int.toNat 1 = 2 + 4 * 0 from by have : Int.toNat 1 = 1 := rfl; omega]; exact (hL.getB (by omega)).1
          have q3 : (List.take 4 R)[(2 : Int).toNat]? = some (u8 (byt L (3 + 4 * 0))) := by rw [List.getElem?_take, if_pos (by decide), h1, List.getElem?_drop, show 1 + 4 * 0 + Int.toNat 2 = 3 + 4 * 0 from by have : Int.toNat 2 = 2 := rfl; omega]; exact (hL.getB (by omega)).1
          have q4 : (List.take 4 R)[(3 : Int).toNat]? = some (u8 (byt L (4 + 4 * 0))) := by rw [List.getElem?_take, if_pos (by decide), h1, List.getElem?_drop, show 1 + 4 * 0 + Int.toNat 3 = 4 + 4 * 0 from by have : Int.toNat 3 = 3 := rfl; omega]; exact (hL.getB (by omega)).1
          have r1 := (hL.getB (show 1 + 4 * 0 < L.length by omega)).2
          have r2 := (hL.getB (show 2 + 4 * 0 < L.length by omega)).2
          have r3 := (hL.getB (show 3 + 4 * 0 < L.length by omega)).2
          have r4 := (hL.getB (show 4 + 4 * 0 < L.length by omega)).2
          (conv => arg 3; whnf); repeat ((first | (with_reducible apply sT); rfl | (with_reducible apply sF); rfl | (with_reducible apply sE); rfl); conv => arg 3; whnf)
          refine sat_call (k_take R s 4 (by omega) hR) ?_
          rintro r H' ⟨rfl, rfl⟩
          (conv => arg 3; whnf); repeat ((first | (with_reducible apply sT); rfl | (with_reducible apply sF); rfl | (with_reducible apply sE); rfl); conv => arg 3; whnf)
          refine sat_idx _ (by simp) q1 ?_
          (conv => arg 3; whnf); repeat ((first | (with_reducible apply sT); rfl | (with_reducible apply sF); rfl | (with_reducible apply sE); rfl); conv => arg 3; whnf)
          refine sat_rng (wrap64 (by omega) (by omega)) ?_
          (conv => arg 3; whnf); repeat ((first | (with_reducible apply sT); rfl | (with_reducible apply sF); rfl | (with_reducible apply sE); rfl); conv => arg 3; whnf)
          refine sat_idx _ (by simp) q2 ?_
          (conv => arg 3; whnf); repeat ((first | (with_reducible apply sT); rfl | (with_reducible apply sF); rfl | (with_reducible apply sE); rfl); conv => arg 3; whnf)
          refine sat_rng (wrap64 (by omega) (by omega)) ?_
          (conv => arg 3; whnf); repeat ((first | (with_reducible apply sT); rfl | (with_reducible apply sF); rfl | (with_reducible apply sE); rfl); conv => arg 3; whnf)
          refine sat_idx _ (by simp) q3 ?_
          (conv => arg 3; whnf); repeat ((first | (with_reducible apply sT); rfl | (with_reducible apply sF); rfl | (with_reducible apply sE); rfl); conv => arg 3; whnf)
          refine sat_rng (wrap64 (by omega) (by omega)) ?_
          (conv => arg 3; whnf); repeat ((first | (with_reducible apply sT); rfl | (with_reducible apply sF); rfl | (with_reducible apply sE); rfl); conv => arg 3; whnf)
          refine sat_idx _ (by simp) q4 ?_
          (conv => arg 3; whnf); repeat ((first | (with_reducible apply sT); rfl | (with_reducible apply sF); rfl | (with_reducible apply sE); rfl); conv => arg 3; whnf)
          refine sat_rng (wrap64 (by omega) (by omega)) ?_
          (conv => arg 3; whnf); repeat ((first | (with_reducible apply sT); rfl | (with_reducible apply sF); rfl | (with_reducible apply sE); rfl); conv => arg 3; whnf)
          refine sat_asrt (by simp [roomy]) ?_
          (conv => arg 3; whnf); repeat ((first | (with_reducible apply sT); rfl | (with_reducible apply sF); rfl | (with_reducible apply sE); rfl); conv => arg 3; whnf)
          refine sat_rng (wrap64 (by omega) (by omega)) ?_
          exact sat_ret ⟨⟨1, R.drop 4, s, [mapAt L 0], hi, rfl, fun _ => ⟨by rw [h1, List.drop_drop], rfl, by omega⟩, fun h => by rw [hs] at h; cases h⟩, rfl, rfl, by show m - (1) < m - 0; omega⟩
      · have hi : 0 = m := by have := of_decide_eq_false hi; omega
        subst hi
        (conv => arg 3; whnf); repeat ((first | (with_reducible apply sT); rfl | (with_reducible apply sF); rfl | (with_reducible apply sE); rfl); conv => arg 3; whnf)
        exact sat_ret ⟨rfl, rfl, R, s, [], rfl, xl, no, yes⟩
    | succ i =>
      refine sat_br (fun hi => ?_) (fun hi => ?_)
      · have hi : i + 1 < m := by have := of_decide_eq_true hi; omega
        rcases Nat.lt_or_ge R.length 4 with hR | hR
        · have hyes : L.length < 1 + 4 * m := by
            cases s with
            | true => exact (yes rfl).2
            | false => obtain ⟨h1, _, h2⟩ := no rfl; rw [h1, List.length_drop] at hR; omega
          (conv => arg 3; whnf); repeat ((first | (with_reducible apply sT); rfl | (with_reducible apply sF); rfl | (with_reducible apply sE); rfl); conv => arg 3; whnf)
          refine sat_call (k_take_no R s 4 (by omega) hR) ?_
          rintro r H' ⟨rfl, rfl⟩
          (conv => arg 3; whnf); repeat ((first | (with_reducible apply sT); rfl | (with_reducible apply sF); rfl | (with_reducible apply sE); rfl); conv => arg 3; whnf)
          refine sat_asrt (by simp) ?_
          (conv => arg 3; whnf); repeat ((first | (with_reducible apply sT); rfl | (with_reducible apply sF); rfl | (with_reducible apply sE); rfl); conv => arg 3; whnf)
          refine sat_idx (u8 0) (by simp) (by simp) ?_
          (conv => arg 3; whnf); repeat ((first | (with_reducible apply sT); rfl | (with_reducible apply sF); rfl | (with_reducible apply sE); rfl); conv => arg 3; whnf)
          refine sat_rng (wrap64 (by omega) (by omega)) ?_
          (conv => arg 3; whnf); repeat ((first | (with_reducible apply sT); rfl | (with_reducible apply sF); rfl | (with_reducible apply sE); rfl); conv => arg 3; whnf)
          refine sat_asrt (by simp) ?_
          (conv => arg 3; whnf); repeat ((first | (with_reducible apply sT); rfl | (with_reducible apply sF); rfl | (with_reducible apply sE); rfl); conv => arg 3; whnf)
          refine sat_idx (u8 0) (by simp) (by simp) ?_
          (conv => arg 3; whnf); repeat ((first | (with_reducible apply sT); rfl | (with_reducible apply sF); rfl | (with_reducible apply sE); rfl); conv => arg 3; whnf)
          refine sat_rng (wrap64 (by omega) (by omega)) ?_
          (conv => arg 3; whnf); repeat ((first | (with_reducible apply sT); rfl | (with_reducible apply sF); rfl | (with_reducible apply sE); rfl); conv => arg 3; whnf)
          refine sat_asrt (by simp) ?_
          (conv => arg 3; whnf); repeat ((first | (with_reducible apply sT); rfl | (with_reducible apply sF); rfl | (with_reducible apply sE); rfl); conv => arg 3; whnf)
          refine sat_idx (u8 0) (by simp) (by simp) ?_
          (conv => arg 3; whnf); repeat ((first | (with_reducible apply sT); rfl | (with_reducible apply sF); rfl | (with_reducible apply sE); rfl); conv => arg 3; whnf)
          refine sat_rng (wrap64 (by omega) (by omega)) ?_
          (conv => arg 3; whnf); repeat ((first | (with_reducible apply sT); rfl | (with_reducible apply sF); rfl | (with_reducible apply sE); rfl); conv => arg 3; whnf)
          refine sat_asrt (by simp) ?_
          (conv => arg 3; whnf); repeat ((first | (with_reducible apply sT); rfl | (with_reducible apply sF); rfl | (with_reducible apply sE); rfl); conv => arg 3; whnf)
          refine sat_idx (u8 0) (by simp) (by simp) ?_
          (conv => arg 3; whnf); repeat ((first | (with_reducible apply sT); rfl | (with_reducible apply sF); rfl | (with_reducible apply sE); rfl); conv => arg 3; whnf)
          refine sat_rng (wrap64 (by omega) (by omega)) ?_
          (conv => arg 3; whnf); repeat ((first | (with_reducible apply sT); rfl | (with_reducible apply sF); rfl | (with_reducible apply sE); rfl); conv => arg 3; whnf)
          refine sat_asrt (by simp) ?_
          refine sat_asrt (by simp [roomy]; omega) ?_
          refine sat_brT (Nat.beq_refl _) ?_
          (conv => arg 3; whnf); repeat ((first | (with_reducible apply sT); rfl | (with_reducible apply sF); rfl | (with_reducible apply sE); rfl); conv => arg 3; whnf)
          refine sat_rng (wrap64 (by omega) (by omega)) ?_
          exact sat_ret ⟨⟨i + 1 + 1, R, true, X ++ [mpT 0 0 0 0], hi, by rw [List.length_append, xl]; rfl, (fun h => by cases h), fun _ => ⟨hR, hyes⟩⟩, rfl, rfl, by show m - (i + 1 + 1) < m - (i + 1); omega⟩
        · have hs : s = false := by
            cases s with
            | true => have := (yes rfl).1; omega
            | false => rfl
          obtain ⟨h1, h2, h3'⟩ := no hs
          have hL4 : 1 + 4 * (i + 1) + 4 ≤ L.length := by rw [h1, List.length_drop] at hR; omega
          have q1 : (List.take 4 R)[(0 : Int).toNat]? = some (u8 (byt L (1 + 4 * (i + 1)))) := by rw [List.getElem?_take, if_pos (by decide), h1, List.getElem?_drop]; exact (hL.getB (by omega)).1
          have q2 : (List.take 4 R)[(1 : Int).toNat]? = some (u8 (byt L (2 + 4 * (i + 1)))) := by rw [List.getElem?_take, if_pos (by decide), h1, List.getElem?_drop, show 1 + 4 * (i + 1) + Int.toNat 1 = 2 + 4 * (i + 1) from by have : Int.toNat 1 = 1 := rfl; omega]; exact (hL.getB (by omega)).1
          have q3 : (List.take 4 R)[(2 : Int).toNat]? = some (u8 (byt L (3 + 4 * (i + 1)))) := by rw [List.getElem?_take, if_pos (by decide), h1, List.getElem?_drop, show 1 + 4 * (i + 1) + Int.toNat 2 = 3 + 4 * (i + 1) from by have : Int.toNat 2 = 2 := rfl; omega]; exact (hL.getB (by omega)).1
          have q4 : (List.take 4 R)[(3 : Int).toNat]? = some (u8 (byt L (4 + 4 * (i + 1)))) := by rw [List.getElem?_take, if_pos (by decide), h1, List.getElem?_drop, show 1 + 4 * (i + 1) + Int.toNat 3 = 4 + 4 * (i + 1) from by have : Int.toNat 3 = 3 := rfl; omega]; exact (hL.getB (by omega)).1
          have r1 := (hL.getB (show 1 + 4 * (i + 1) < L.length by omega)).2
          have r2 := (hL.getB (show 2 + 4 * (i + 1) < L.length by omega)).2
          have r3 := (hL.getB (show 3 + 4 * (i + 1) < L.length by omega)).2
          have r4 := (hL.getB (show 4 + 4 * (i + 1) < L.length by omega)).2
          (conv => arg 3; whnf); repeat ((first | (with_reducible apply sT); rfl | (with_reducible apply sF); rfl | (with_reducible apply sE); rfl); conv => arg 3; whnf)
          refine sat_call (k_take R s 4 (by omega) hR) ?_
          rintro r H' ⟨rfl, rfl⟩
          (conv => arg 3; whnf); repeat ((first | (with_reducible apply sT); rfl | (with_reducible apply sF); rfl | (with_reducible apply sE); rfl); conv => arg 3; whnf)
          refine sat_idx _ (by simp) q1 ?_
          (conv => arg 3; whnf); repeat ((first | (with_reducible apply sT); rfl | (with_reducible apply sF); rfl | (with_reducible apply sE); rfl); conv => arg 3; whnf)
          refine sat_rng (wrap64 (by omega) (by omega)) ?_
          (conv => arg 3; whnf); repeat ((first | (with_reducible apply sT); rfl | (with_reducible apply sF); rfl | (with_reducible apply sE); rfl); conv => arg 3; whnf)
          refine sat_idx _ (by simp) q2 ?_
          (conv => arg 3; whnf); repeat ((first | (with_reducible apply sT); rfl | (with_reducible apply sF); rfl | (with_reducible apply sE); rfl); conv => arg 3; whnf)
          refine sat_rng (wrap64 (by omega) (by omega)) ?_
          (conv => arg 3; whnf); repeat ((first | (with_reducible apply sT); rfl | (with_reducible apply sF); rfl | (with_reducible apply sE); rfl); conv => arg 3; whnf)
          refine sat_idx _ (by simp) q3 ?_
          (conv => arg 3; whnf); repeat ((first | (with_reducible apply sT); rfl | (with_reducible apply sF); rfl | (with_reducible apply sE); rfl); conv => arg 3; whnf)
          refine sat_rng (wrap64 (by omega) (by omega)) ?_
          (conv => arg 3; whnf); repeat ((first | (with_reducible apply sT); rfl | (with_reducible apply sF); rfl | (with_reducible apply sE); rfl); conv => arg 3; whnf)
          refine sat_idx _ (by simp) q4 ?_
          (conv => arg 3; whnf); repeat ((first | (with_reducible apply sT); rfl | (with_reducible apply sF); rfl | (with_reducible apply sE); rfl); conv => arg 3; whnf)
          refine sat_rng (wrap64 (by omega) (by omega)) ?_
          (conv => arg 3; whnf); repeat ((first | (with_reducible apply sT); rfl | (with_reducible apply sF); rfl | (with_reducible apply sE); rfl); conv => arg 3; whnf)
          refine sat_asrt (by simp) ?_
          refine sat_asrt (by simp [roomy]; omega) ?_
          refine sat_brT (Nat.beq_refl _) ?_
          (conv => arg 3; whnf); repeat ((first | (with_reducible apply sT); rfl | (with_reducible apply sF); rfl | (with_reducible apply sE); rfl); conv => arg 3; whnf)
          refine sat_rng (wrap64 (by omega) (by omega)) ?_
          exact sat_ret ⟨⟨i + 1 + 1, R.drop 4, s, X ++ [mapAt L (i + 1)], hi, by rw [List.length_append, xl]; rfl, fun _ => ⟨by rw [h1, List.drop_drop, show 1 + 4 * (i + 1) + 4 = 1 + 4 * (i + 1 + 1) from by omega], by rw [mapsAt_next L (i + 1), h2], by omega⟩, fun h => by rw [hs] at h; cases h⟩, rfl, rfl, by show m - (i + 1 + 1) < m - (i + 1); omega⟩
      · have hi : i + 1 = m := by have := of_decide_eq_false hi; omega
        subst hi
        (conv => arg 3; whnf); repeat ((first | (with_reducible apply sT); rfl | (with_reducible apply sF); rfl | (with_reducible apply sE); rfl); conv => arg 3; whnf)
        exact sat_ret ⟨rfl, rfl, R, s, X, rfl, xl, no, yes⟩
  · rintro ex fr' H' ⟨rfl, rfl, R, s, X, rfl, xl, no, yes⟩
    cases m with
    | zero =>
      have xn : X = [] := List.eq_nil_of_length_eq_zero xl
      subst xn
      rcases Nat.lt_or_ge R.length 2 with hR | hR
      · have hl2 : L.length < 1 + 4 * 0 + 2 := by
          cases s with
          | true => have := (yes rfl).2; omega
          | false => obtain ⟨h1, _, h2⟩ := no rfl; rw [h1, List.length_drop] at hR; omega
        (conv => arg 3; whnf); repeat ((first | (with_reducible apply sT); rfl | (with_reducible apply sF); rfl | (with_reducible apply sE); rfl); conv => arg 3; whnf)
        refine sat_call (k_take_no R s 2 (by omega) hR) ?_
        rintro r H' ⟨rfl, rfl⟩
        (conv => arg 3; whnf); repeat ((first | (with_reducible apply sT); rfl | (with_reducible apply sF); rfl | (with_reducible apply sE); rfl); conv => arg 3; whnf)
        have e : decB L = (im0, 4) := by unfold decB; rw [hm, Int.toNat_natCast]; rw [if_neg (by omega), if_neg (by omega), if_neg (by omega), if_pos (by omega)]
        rw [e]
        (conv => arg 3; whnf); repeat ((first | (with_reducible apply sT); rfl | (with_reducible apply sF); rfl | (with_reducible apply sE); rfl); conv => arg 3; whnf)
        exact sat_ret ⟨rfl, rfl⟩
      (conv => arg 3; whnf); repeat ((first | (with_reducible apply sT); rfl | (with_reducible apply sF); rfl | (with_reducible apply sE); rfl); conv => arg 3; whnf)
      refine sat_call (k_take R s 2 (by omega) hR) ?_
      rintro r H' ⟨rfl, rfl⟩
      (conv => arg 3; whnf); repeat ((first | (with_reducible apply sT); rfl | (with_reducible apply sF); rfl | (with_reducible apply sE); rfl); conv => arg 3; whnf)
      refine sat_br (fun hs => ?_) (fun hs => ?_)
      · subst hs
        have hl2 := (yes rfl).2
        have e : decB L = (im0, 4) := by unfold decB; rw [hm, Int.toNat_natCast]; rw [if_neg (by omega), if_neg (by omega), if_neg (by omega), if_pos (by omega)]
        rw [e]
        (conv => arg 3; whnf); repeat ((first | (with_reducible apply sT); rfl | (with_reducible apply sF); rfl | (with_reducible apply sE); rfl); conv => arg 3; whnf)
        exact sat_ret ⟨rfl, rfl⟩
      obtain ⟨f1, f2, f3⟩ := no hs
      have hl2 : 1 + 4 * 0 + 2 ≤ L.length := by rw [f1, List.length_drop] at hR; omega
      have q1 : (List.take 2 R)[(0 : Int).toNat]? = some (u8 (byt L (1 + 4 * 0))) := by rw [List.getElem?_take, if_pos (by decide), f1, List.getElem?_drop]; exact (hL.getB (by omega)).1
      have q2 : (List.take 2 R)[(1 : Int).toNat]? = some (u8 (byt L (1 + 4 * 0 + 1))) := by rw [List.getElem?_take, if_pos (by decide), f1, List.getElem?_drop]; exact (hL.getB (by omega)).1
      have r1 := (hL.getB (show 1 + 4 * 0 < L.length by omega)).2
      have r2 := (hL.getB (show 1 + 4 * 0 + 1 < L.length by omega)).2
      have hor : bitsV .or .i64 (byt L (1 + 4 * 0)) (byt L (1 + 4 * 0 + 1) * 2 ^ 8) = byt L (1 + 4 * 0) + 256 * byt L (1 + 4 * 0 + 1) := by
        rw [or_shl .i64 (n := 8) (by omega) (by omega) (by show _ < (2 : Int) ^ 64; omega) (wrap64 (by omega) (by omega))]; omega
      obtain ⟨p, hp⟩ : ∃ p : Nat, byt L (1 + 4 * 0) + 256 * byt L (1 + 4 * 0 + 1) = p := ⟨(byt L (1 + 4 * 0) + 256 * byt L (1 + 4 * 0 + 1)).toNat, by omega⟩
      have p8 : (2 : Int) ^ min (Int.toNat 8) (IntKind.bits .i64) = 2 ^ 8 := by decide
      have fR : R.drop 2 = L.drop (1 + 4 * 0 + 2 + 8 * 0) := by rw [f1, List.drop_drop]
      generalize R.drop 2 = R2 at fR ⊢
      (conv => arg 3; whnf); repeat ((first | (with_reducible apply sT); rfl | (with_reducible apply sF); rfl | (with_reducible apply sE); rfl); conv => arg 3; whnf)
      refine sat_idx _ (by simp) q1 ?_
      (conv => arg 3; whnf); repeat ((first | (with_reducible apply sT); rfl | (with_reducible apply sF); rfl | (with_reducible apply sE); rfl); conv => arg 3; whnf)
      refine sat_rng (wrap64 (by omega) (by omega)) ?_
      (conv => arg 3; whnf); repeat ((first | (with_reducible apply sT); rfl | (with_reducible apply sF); rfl | (with_reducible apply sE); rfl); conv => arg 3; whnf)
      refine sat_idx _ (by simp) q2 ?_
      (conv => arg 3; whnf); repeat ((first | (with_reducible apply sT); rfl | (with_reducible apply sF); rfl | (with_reducible apply sE); rfl); conv => arg 3; whnf)
      refine sat_rng (wrap64 (by omega) (by omega)) ?_
      (conv => arg 3; whnf); repeat ((first | (with_reducible apply sT); rfl | (with_reducible apply sF); rfl | (with_reducible apply sE); rfl); conv => arg 3; whnf)
      refine sat_asrt rfl ?_
      rw [p8]
      refine sat_rng (wrap64 (by omega) (by omega)) ?_
      (conv => arg 3; whnf); repeat ((first | (with_reducible apply sT); rfl | (with_reducible apply sF); rfl | (with_reducible apply sE); rfl); conv => arg 3; whnf)
      rw [hor, hp]
      refine sat_br (fun h => ?_) (fun h => ?_)
      · have h := of_decide_eq_true h
        have e : decB L = (im0, 5) := by unfold decB; rw [hm, Int.toNat_natCast, hp]; rw [if_neg (by omega), if_neg (by omega), if_neg (by omega), if_neg (by omega), if_pos (by omega)]
        rw [e]
        (conv => arg 3; whnf); repeat ((first | (with_reducible apply sT); rfl | (with_reducible apply sF); rfl | (with_reducible apply sE); rfl); conv => arg 3; whnf)
        exact sat_ret ⟨rfl, rfl⟩
      have h7 := of_decide_eq_false h
      (conv => arg 3; whnf); repeat ((first | (with_reducible apply sT); rfl | (with_reducible apply sF); rfl | (with_reducible apply sE); rfl); conv => arg 3; whnf)
      clear h4 h5 p8 q1 q2 hor
      refine sat_loopOf mkX_ops (σ := JSu L 0 p) (fun s => [(1, pt 0), (2, pt 1), (4, pt 2), (5, fnT), (6, pt 3), (72, ti p), (73, ti s.i)]) (fun s => kW s.R s.s [] s.Y 0 s.i) (fun s => p - s.i)
        (fun ex fr' H' => ex = .exit 2 ∧ fr' = [(1, pt 0), (2, pt 1), (4, pt 2), (6, pt 3)] ∧ ∃ R s Y, H' = kW R s [] Y 0 p ∧ Y.length = p ∧ (s = false → R = L.drop (1 + 4 * 0 + 2 + 8 * p) ∧ Y = insnAt L (1 + 4 * 0 + 2) p ∧ 1 + 4 * 0 + 2 + 8 * p ≤ L.length) ∧ (s = true → R.length < 8 ∧ L.length < 1 + 4 * 0 + 2 + 8 * p)) ⟨0, R2, s, [], Nat.zero_le _, rfl, fun _ => ⟨fR, rfl, by omega⟩, fun h => by rw [hs] at h; cases h⟩ ?_ ?_
      · clear no yes hs
        rintro ⟨i, R, s, Y, im, yl, no, yes⟩
        dsimp only
        cases i with
        | zero =>
          have yn : Y = [] := List.eq_nil_of_length_eq_zero yl
          subst yn
          refine sat_br (fun hi => ?_) (fun hi => ?_)
          rotate_left
          · have hi : 0 = p := by have := of_decide_eq_false hi; omega
            subst hi
            (conv => arg 3; whnf); repeat ((first | (with_reducible apply sT); rfl | (with_reducible apply sF); rfl | (with_reducible apply sE); rfl); conv => arg 3; whnf)
            exact sat_ret ⟨rfl, rfl, R, s, [], rfl, yl, no, yes⟩
          have hi : 0 < p := by have := of_decide_eq_true hi; omega
          rcases Nat.lt_or_ge R.length 8 with hR | hR
          · have hyes : L.length < 1 + 4 * 0 + 2 + 8 * p := by
              cases s with
              | true => exact (yes rfl).2
              | false => obtain ⟨h1, _, h2⟩ := no rfl; rw [h1, List.length_drop] at hR; omega
            (conv => arg 3; whnf); repeat ((first | (with_reducible apply sT); rfl | (with_reducible apply sF); rfl | (with_reducible apply sE); rfl); conv => arg 3; whnf)
            refine sat_call (k_take_no R s 8 (by omega) hR) ?_
            rintro r H' ⟨rfl, rfl⟩
            (conv => arg 3; whnf); repeat ((first | (with_reducible apply sT); rfl | (with_reducible apply sF); rfl | (with_reducible apply sE); rfl); conv => arg 3; whnf)
            refine sat_call (k_dec 0 0 0 0 0 0 0 0 ⟨by omega, by omega, by omega, by omega, by omega, by omega, by omega, by omega⟩) ?_
            rintro r H' ⟨rfl, rfl⟩
            (conv => arg 3; whnf); repeat ((first | (with_reducible apply sT); rfl | (with_reducible apply sF); rfl | (with_reducible apply sE); rfl); conv => arg 3; whnf)
            refine sat_asrt (by simp [roomy]) ?_
            (conv => arg 3; whnf); repeat ((first | (with_reducible apply sT); rfl | (with_reducible apply sF); rfl | (with_reducible apply sE); rfl); conv => arg 3; whnf)
            refine sat_rng (wrap64 (by omega) (by omega)) ?_
            exact sat_ret ⟨⟨1, R, true, [dec8 0 0 0 0 0 0 0 0], hi, rfl, (fun h => by cases h), fun _ => ⟨hR, hyes⟩⟩, rfl, rfl, by show p - (1) < p - 0; omega⟩
          · have hs : s = false := by
              cases s with
              | true => have := (yes rfl).1; omega
              | false => rfl
            obtain ⟨h1, h2, h3'⟩ := no hs
            have ha : 1 + 4 * 0 + 2 + 8 * 0 + 8 ≤ L.length := by rw [h1, List.length_drop] at hR; omega
            have w := take8 hL ha
            rw [← h1] at w
            (conv => arg 3; whnf); repeat ((first | (with_reducible apply sT); rfl | (with_reducible apply sF); rfl | (with_reducible apply sE); rfl); conv => arg 3; whnf)
            refine sat_call (k_take R s 8 (by omega) hR) ?_
            rintro r H' ⟨rfl, rfl⟩
            (conv => arg 3; whnf); repeat ((first | (with_reducible apply sT); rfl | (with_reducible apply sF); rfl | (with_reducible apply sE); rfl); conv => arg 3; whnf)
            rw [w]
            refine sat_call (k_dec _ _ _ _ _ _ _ _ (by8 hL ha)) ?_
            rintro r H' ⟨rfl, rfl⟩
            (conv => arg 3; whnf); repeat ((first | (with_reducible apply sT); rfl | (with_reducible apply sF); rfl | (with_reducible apply sE); rfl); conv => arg 3; whnf)
            refine sat_asrt (by simp [roomy]) ?_
            (conv => arg 3; whnf); repeat ((first | (with_reducible apply sT); rfl | (with_reducible apply sF); rfl | (with_reducible apply sE); rfl); conv => arg 3; whnf)
            refine sat_rng (wrap64 (by omega) (by omega)) ?_
            exact sat_ret ⟨⟨1, R.drop 8, s, [insAt L (1 + 4 * 0 + 2 + 8 * 0)], hi, rfl, fun _ => ⟨by rw [h1, List.drop_drop, show 1 + 4 * 0 + 2 + 8 * 0 + 8 = 1 + 4 * 0 + 2 + 8 * (1) from by omega], rfl, by omega⟩, fun h => by rw [hs] at h; cases h⟩, rfl, rfl, by show p - (1) < p - 0; omega⟩
        | succ i =>
          refine sat_br (fun hi => ?_) (fun hi => ?_)
          rotate_left
          · have hi : i + 1 = p := by have := of_decide_eq_false hi; omega
            subst hi
            (conv => arg 3; whnf); repeat ((first | (with_reducible apply sT); rfl | (with_reducible apply sF); rfl | (with_reducible apply sE); rfl); conv => arg 3; whnf)
            exact sat_ret ⟨rfl, rfl, R, s, Y, rfl, yl, no, yes⟩
          have hi : i + 1 < p := by have := of_decide_eq_true hi; omega
          rcases Nat.lt_or_ge R.length 8 with hR | hR
          · have hyes : L.length < 1 + 4 * 0 + 2 + 8 * p := by
              cases s with
              | true => exact (yes rfl).2
              | false => obtain ⟨h1, _, h2⟩ := no rfl; rw [h1, List.length_drop] at hR; omega
            (conv => arg 3; whnf); repeat ((first | (with_reducible apply sT); rfl | (with_reducible apply sF); rfl | (with_reducible apply sE); rfl); conv => arg 3; whnf)
            refine sat_call (k_take_no R s 8 (by omega) hR) ?_
            rintro r H' ⟨rfl, rfl⟩
            (conv => arg 3; whnf); repeat ((first | (with_reducible apply sT); rfl | (with_reducible apply sF); rfl | (with_reducible apply sE); rfl); conv => arg 3; whnf)
            refine sat_call (k_dec 0 0 0 0 0 0 0 0 ⟨by omega, by omega, by omega, by omega, by omega, by omega, by omega, by omega⟩) ?_
            rintro r H' ⟨rfl, rfl⟩
            (conv => arg 3; whnf); repeat ((first | (with_reducible apply sT); rfl | (with_reducible apply sF); rfl | (with_reducible apply sE); rfl); conv => arg 3; whnf)
            refine sat_asrt (by simp) ?_
            refine sat_asrt (by simp [roomy]; omega) ?_
            refine sat_brT (Nat.beq_refl _) ?_
            (conv => arg 3; whnf); repeat ((first | (with_reducible apply sT); rfl | (with_reducible apply sF); rfl | (with_reducible apply sE); rfl); conv => arg 3; whnf)
            refine sat_rng (wrap64 (by omega) (by omega)) ?_
            exact sat_ret ⟨⟨i + 1 + 1, R, true, Y ++ [dec8 0 0 0 0 0 0 0 0], hi, by rw [List.length_append, yl]; rfl, (fun h => by cases h), fun _ => ⟨hR, hyes⟩⟩, rfl, rfl, by show p - (i + 1 + 1) < p - (i + 1); omega⟩
          · have hs : s = false := by
              cases s with
              | true => have := (yes rfl).1; omega
              | false => rfl
            obtain ⟨h1, h2, h3'⟩ := no hs
            have ha : 1 + 4 * 0 + 2 + 8 * (i + 1) + 8 ≤ L.length := by rw [h1, List.length_drop] at hR; omega
            have w := take8 hL ha
            rw [← h1] at w
            (conv => arg 3; whnf); repeat ((first | (with_reducible apply sT); rfl | (with_reducible apply sF); rfl | (with_reducible apply sE); rfl); conv => arg 3; whnf)
            refine sat_call (k_take R s 8 (by omega) hR) ?_
            rintro r H' ⟨rfl, rfl⟩
            (conv => arg 3; whnf); repeat ((first | (with_reducible apply sT); rfl | (with_reducible apply sF); rfl | (with_reducible apply sE); rfl); conv => arg 3; whnf)
            rw [w]
            refine sat_call (k_dec _ _ _ _ _ _ _ _ (by8 hL ha)) ?_
            rintro r H' ⟨rfl, rfl⟩
            (conv => arg 3; whnf); repeat ((first | (with_reducible apply sT); rfl | (with_reducible apply sF); rfl | (with_reducible apply sE); rfl); conv => arg 3; whnf)
            refine sat_asrt (by simp) ?_
            refine sat_asrt (by simp [roomy]; omega) ?_
            refine sat_brT (Nat.beq_refl _) ?_
            (conv => arg 3; whnf); repeat ((first | (with_reducible apply sT); rfl | (with_reducible apply sF); rfl | (with_reducible apply sE); rfl); conv => arg 3; whnf)
            refine sat_rng (wrap64 (by omega) (by omega)) ?_
            exact sat_ret ⟨⟨i + 1 + 1, R.drop 8, s, Y ++ [insAt L (1 + 4 * 0 + 2 + 8 * (i + 1))], hi, by rw [List.length_append, yl]; rfl, fun _ => ⟨by rw [h1, List.drop_drop, show 1 + 4 * 0 + 2 + 8 * (i + 1) + 8 = 1 + 4 * 0 + 2 + 8 * (i + 1 + 1) from by omega], by rw [insnAt_next L _ (i + 1), h2], by omega⟩, fun h => by rw [hs] at h; cases h⟩, rfl, rfl, by show p - (i + 1 + 1) < p - (i + 1); omega⟩
      · clear no yes hs hR f1 fR
        rintro ex fr' H' ⟨rfl, rfl, R, s, Y, rfl, yl, no, yes⟩
        cases p with
        | zero =>
          have yn : Y = [] := List.eq_nil_of_length_eq_zero yl
          subst yn
          (conv => arg 3; whnf); repeat ((first | (with_reducible apply sT); rfl | (with_reducible apply sF); rfl | (with_reducible apply sE); rfl); conv => arg 3; whnf)
          refine sat_br (fun hs => ?_) (fun hs => ?_)
          · subst hs
            have hy := (yes rfl).2
            have e : decB L = (im0, 4) := by unfold decB; rw [hm, Int.toNat_natCast, hp, Int.toNat_natCast]; rw [if_neg (by omega), if_neg (by omega), if_neg (by omega), if_neg (by omega), if_neg (by omega), if_pos (by omega)]
            rw [e]
            (conv => arg 3; whnf); repeat ((first | (with_reducible apply sT); rfl | (with_reducible apply sF); rfl | (with_reducible apply sE); rfl); conv => arg 3; whnf)
            exact sat_ret ⟨rfl, rfl⟩
          · obtain ⟨g1, g2, g3⟩ := no hs
            (conv => arg 3; whnf); repeat ((first | (with_reducible apply sT); rfl | (with_reducible apply sF); rfl | (with_reducible apply sE); rfl); conv => arg 3; whnf)
            refine sat_br (fun h => ?_) (fun h => ?_)
            · have h := of_decide_eq_true h
              have hlen : R.length > 0 := by omega
              rw [g1, List.length_drop] at hlen
              have e : decB L = (im0, 5) := by unfold decB; rw [hm, Int.toNat_natCast, hp, Int.toNat_natCast]; rw [if_neg (by omega), if_neg (by omega), if_neg (by omega), if_neg (by omega), if_neg (by omega), if_neg (by omega), if_pos (by omega)]
              rw [e]
              (conv => arg 3; whnf); repeat ((first | (with_reducible apply sT); rfl | (with_reducible apply sF); rfl | (with_reducible apply sE); rfl); conv => arg 3; whnf)
              exact sat_ret ⟨rfl, rfl⟩
            · have h := of_decide_eq_false h
              have hlen : R.length = 0 := by omega
              rw [g1, List.length_drop] at hlen
              have e : decB L = (⟨true, mapsAt L 0, true, insnAt L (1 + 4 * 0 + 2) 0⟩, 0) := by
                unfold decB; rw [hm, Int.toNat_natCast, hp, Int.toNat_natCast]
                rw [if_neg (by omega), if_neg (by omega), if_neg (by omega), if_neg (by omega), if_neg (by omega), if_neg (by omega), if_neg (by omega)]
              have ev : (decB L).1.v = imV (mapsAt L 0) (insnAt L (1 + 4 * 0 + 2) 0) 0 0 := by
                rw [e]; show imV _ _ (mapsAt L 0).length (insnAt L (1 + 4 * 0 + 2) 0).length = _
                rw [mapsAt_len, insnAt_len]
              rw [ev, show (decB L).2 = 0 by rw [e], ← f2, ← g2]
              clear ev e
              (conv => arg 3; whnf); repeat ((first | (with_reducible apply sT); rfl | (with_reducible apply sF); rfl | (with_reducible apply sE); rfl); conv => arg 3; whnf)
              exact sat_ret ⟨rfl, rfl⟩
        | succ p =>
          (conv => arg 3; whnf); repeat ((first | (with_reducible apply sT); rfl | (with_reducible apply sF); rfl | (with_reducible apply sE); rfl); conv => arg 3; whnf)
          refine sat_br (fun hs => ?_) (fun hs => ?_)
          · subst hs
            have hy := (yes rfl).2
            have e : decB L = (im0, 4) := by unfold decB; rw [hm, Int.toNat_natCast, hp, Int.toNat_natCast]; rw [if_neg (by omega), if_neg (by omega), if_neg (by omega), if_neg (by omega), if_neg (by omega), if_pos (by omega)]
            rw [e]
            (conv => arg 3; whnf); repeat ((first | (with_reducible apply sT); rfl | (with_reducible apply sF); rfl | (with_reducible apply sE); rfl); conv => arg 3; whnf)
            exact sat_ret ⟨rfl, rfl⟩
          · obtain ⟨g1, g2, g3⟩ := no hs
            (conv => arg 3; whnf); repeat ((first | (with_reducible apply sT); rfl | (with_reducible apply sF); rfl | (with_reducible apply sE); rfl); conv => arg 3; whnf)
            refine sat_br (fun h => ?_) (fun h => ?_)
            · have h := of_decide_eq_true h
              have hlen : R.length > 0 := by omega
              rw [g1, List.length_drop] at hlen
              have e : decB L = (im0, 5) := by unfold decB; rw [hm, Int.toNat_natCast, hp, Int.toNat_natCast]; rw [if_neg (by omega), if_neg (by omega), if_neg (by omega), if_neg (by omega), if_neg (by omega), if_neg (by omega), if_pos (by omega)]
              rw [e]
              (conv => arg 3; whnf); repeat ((first | (with_reducible apply sT); rfl | (with_reducible apply sF); rfl | (with_reducible apply sE); rfl); conv => arg 3; whnf)
              exact sat_ret ⟨rfl, rfl⟩
            · have h := of_decide_eq_false h
              have hlen : R.length = 0 := by omega
              rw [g1, List.length_drop] at hlen
              have e : decB L = (⟨true, mapsAt L 0, true, insnAt L (1 + 4 * 0 + 2) (p + 1)⟩, 0) := by
                unfold decB; rw [hm, Int.toNat_natCast, hp, Int.toNat_natCast]
                rw [if_neg (by omega), if_neg (by omega), if_neg (by omega), if_neg (by omega), if_neg (by omega), if_neg (by omega), if_neg (by omega)]
              have ev : (decB L).1.v = imV (mapsAt L 0) (insnAt L (1 + 4 * 0 + 2) (p + 1)) 0 (p + 1) := by
                rw [e]; show imV _ _ (mapsAt L 0).length (insnAt L (1 + 4 * 0 + 2) (p + 1)).length = _
                rw [mapsAt_len, insnAt_len]
              rw [ev, show (decB L).2 = 0 by rw [e], ← f2, ← g2]
              clear ev e
              (conv => arg 3; whnf); repeat ((first | (with_reducible apply sT); rfl | (with_reducible apply sF); rfl | (with_reducible apply sE); rfl); conv => arg 3; whnf)
              exact sat_ret ⟨rfl, rfl⟩
    | succ m =>
      rcases Nat.lt_or_ge R.length 2 with hR | hR
      · have hl2 : L.length < 1 + 4 * (m + 1) + 2 := by
          cases s with
          | true => have := (yes rfl).2; omega
          | false => obtain ⟨h1, _, h2⟩ := no rfl; rw [h1, List.length_drop] at hR; omega
        (conv => arg 3; whnf); repeat ((first | (with_reducible apply sT); rfl | (with_reducible apply sF); rfl | (with_reducible apply sE); rfl); conv => arg 3; whnf)
        refine sat_call (k_take_no R s 2 (by omega) hR) ?_
        rintro r H' ⟨rfl, rfl⟩
        (conv => arg 3; whnf); repeat ((first | (with_reducible apply sT); rfl | (with_reducible apply sF); rfl | (with_reducible apply sE); rfl); conv => arg 3; whnf)
        have e : decB L = (im0, 4) := by unfold decB; rw [hm, Int.toNat_natCast]; rw [if_neg (by omega), if_neg (by omega), if_neg (by omega), if_pos (by omega)]
        rw [e]
        (conv => arg 3; whnf); repeat ((first | (with_reducible apply sT); rfl | (with_reducible apply sF); rfl | (with_reducible apply sE); rfl); conv => arg 3; whnf)
        exact sat_ret ⟨rfl, rfl⟩
      (conv => arg 3; whnf); repeat ((first | (with_reducible apply sT); rfl | (with_reducible apply sF); rfl | (with_reducible apply sE); rfl); conv => arg 3; whnf)
      refine sat_call (k_take R s 2 (by omega) hR) ?_
      rintro r H' ⟨rfl, rfl⟩
      (conv => arg 3; whnf); repeat ((first | (with_reducible apply sT); rfl | (with_reducible apply sF); rfl | (with_reducible apply sE); rfl); conv => arg 3; whnf)
      refine sat_br (fun hs => ?_) (fun hs => ?_)
      · subst hs
        have hl2 := (yes rfl).2
        have e : decB L = (im0, 4) := by unfold decB; rw [hm, Int.toNat_natCast]; rw [if_neg (by omega), if_neg (by omega), if_neg (by omega), if_pos (by omega)]
        rw [e]
        (conv => arg 3; whnf); repeat ((first | (with_reducible apply sT); rfl | (with_reducible apply sF); rfl | (with_reducible apply sE); rfl); conv => arg 3; whnf)
        exact sat_ret ⟨rfl, rfl⟩
      obtain ⟨f1, f2, f3⟩ := no hs
      have hl2 : 1 + 4 * (m + 1) + 2 ≤ L.length := by rw [f1, List.length_drop] at hR; omega
      have q1 : (List.take 2 R)[(0 : Int).toNat]? = some (u8 (byt L (1 + 4 * (m + 1)))) := by rw [List.getElem?_take, if_pos (by decide), f1, List.getElem?_drop]; exact (hL.getB (by omega)).1
      have q2 : (List.take 2 R)[(1 : Int).toNat]? = some (u8 (byt L (1 + 4 * (m + 1) + 1))) := by rw [List.getElem?_take, if_pos (by decide), f1, List.getElem?_drop]; exact (hL.getB (by omega)).1
      have r1 := (hL.getB (show 1 + 4 * (m + 1) < L.length by omega)).2
      have r2 := (hL.getB (show 1 + 4 * (m + 1) + 1 < L.length by omega)).2
      have hor : bitsV .or .i64 (byt L (1 + 4 * (m + 1))) (byt L (1 + 4 * (m + 1) + 1) * 2 ^ 8) = byt L (1 + 4 * (m + 1)) + 256 * byt L (1 + 4 * (m + 1) + 1) := by
        rw [or_shl .i64 (n := 8) (by omega) (by omega) (by show _ < (2 : Int) ^ 64; omega) (wrap64 (by omega) (by omega))]; omega
      obtain ⟨p, hp⟩ : ∃ p : Nat, byt L (1 + 4 * (m + 1)) + 256 * byt L (1 + 4 * (m + 1) + 1) = p := ⟨(byt L (1 + 4 * (m + 1)) + 256 * byt L (1 + 4 * (m + 1) + 1)).toNat, by omega⟩
      have p8 : (2 : Int) ^ min (Int.toNat 8) (IntKind.bits .i64) = 2 ^ 8 := by decide
      have fR : R.drop 2 = L.drop (1 + 4 * (m + 1) + 2 + 8 * 0) := by rw [f1, List.drop_drop]
      generalize R.drop 2 = R2 at fR ⊢
      (conv => arg 3; whnf); repeat ((first | (with_reducible apply sT); rfl | (with_reducible apply sF); rfl | (with_reducible apply sE); rfl); conv => arg 3; whnf)
      refine sat_idx _ (by simp) q1 ?_
      (conv => arg 3; whnf); repeat ((first | (with_reducible apply sT); rfl | (with_reducible apply sF); rfl | (with_reducible apply sE); rfl); conv => arg 3; whnf)
      refine sat_rng (wrap64 (by omega) (by omega)) ?_
      (conv => arg 3; whnf); repeat ((first | (with_reducible apply sT); rfl | (with_reducible apply sF); rfl | (with_reducible apply sE); rfl); conv => arg 3; whnf)
      refine sat_idx _ (by simp) q2 ?_
      (conv => arg 3; whnf); repeat ((first | (with_reducible apply sT); rfl | (with_reducible apply sF); rfl | (with_reducible apply sE); rfl); conv => arg 3; whnf)
      refine sat_rng (wrap64 (by omega) (by omega)) ?_
      (conv => arg 3; whnf); repeat ((first | (with_reducible apply sT); rfl | (with_reducible apply sF); rfl | (with_reducible apply sE); rfl); conv => arg 3; whnf)
      refine sat_asrt rfl ?_
      rw [p8]
      refine sat_rng (wrap64 (by omega) (by omega)) ?_
      (conv => arg 3; whnf); repeat ((first | (with_reducible apply sT); rfl | (with_reducible apply sF); rfl | (with_reducible apply sE); rfl); conv => arg 3; whnf)
      rw [hor, hp]
      refine sat_br (fun h => ?_) (fun h => ?_)
      · have h := of_decide_eq_true h
        have e : decB L = (im0, 5) := by unfold decB; rw [hm, Int.toNat_natCast, hp]; rw [if_neg (by omega), if_neg (by omega), if_neg (by omega), if_neg (by omega), if_pos (by omega)]
        rw [e]
        (conv => arg 3; whnf); repeat ((first | (with_reducible apply sT); rfl | (with_reducible apply sF); rfl | (with_reducible apply sE); rfl); conv => arg 3; whnf)
        exact sat_ret ⟨rfl, rfl⟩
      have h7 := of_decide_eq_false h
      (conv => arg 3; whnf); repeat ((first | (with_reducible apply sT); rfl | (with_reducible apply sF); rfl | (with_reducible apply sE); rfl); conv => arg 3; whnf)
      clear h4 h5 p8 q1 q2 hor
      refine sat_loopOf mkX_ops (σ := JSu L (m + 1) p) (fun s => [(1, pt 0), (2, pt 1), (4, pt 2), (5, fnT), (6, pt 3), (72, ti p), (73, ti s.i)]) (fun s => kW s.R s.s X s.Y (m + 1) s.i) (fun s => p - s.i)
        (fun ex fr' H' => ex = .exit 2 ∧ fr' = [(1, pt 0), (2, pt 1), (4, pt 2), (6, pt 3)] ∧ ∃ R s Y, H' = kW R s X Y (m + 1) p ∧ Y.length = p ∧ (s = false → R = L.drop (1 + 4 * (m + 1) + 2 + 8 * p) ∧ Y = insnAt L (1 + 4 * (m + 1) + 2) p ∧ 1 + 4 * (m + 1) + 2 + 8 * p ≤ L.length) ∧ (s = true → R.length < 8 ∧ L.length < 1 + 4 * (m + 1) + 2 + 8 * p)) ⟨0, R2, s, [], Nat.zero_le _, rfl, fun _ => ⟨fR, rfl, by omega⟩, fun h => by rw [hs] at h; cases h⟩ ?_ ?_
      · clear no yes hs
        rintro ⟨i, R, s, Y, im, yl, no, yes⟩
        dsimp only
        cases i with
        | zero =>
          have yn : Y = [] := List.eq_nil_of_length_eq_zero yl
          subst yn
          refine sat_br (fun hi => ?_) (fun hi => ?_)
          rotate_left
          · have hi : 0 = p := by have := of_decide_eq_false hi; omega
            subst hi
            (conv => arg 3; whnf); repeat ((first | (with_reducible apply sT); rfl | (with_reducible apply sF); rfl | (with_reducible apply sE); rfl); conv => arg 3; whnf)
            exact sat_ret ⟨rfl, rfl, R, s, [], rfl, yl, no, yes⟩
          have hi : 0 < p := by have := of_decide_eq_true hi; omega
          rcases Nat.lt_or_ge R.length 8 with hR | hR
          · have hyes : L.length < 1 + 4 * (m + 1) + 2 + 8 * p := by
              cases s with
              | true => exact (yes rfl).2
              | false => obtain ⟨h1, _, h2⟩ := no rfl; rw [h1, List.length_drop] at hR; omega
            (conv => arg 3; whnf); repeat ((first | (with_reducible apply sT); rfl | (with_reducible apply sF); rfl | (with_reducible apply sE); rfl); conv => arg 3; whnf)
            refine sat_call (k_take_no R s 8 (by omega) hR) ?_
            rintro r H' ⟨rfl, rfl⟩
            (conv => arg 3; whnf); repeat ((first | (with_reducible apply sT); rfl | (with_reducible apply sF); rfl | (with_reducible apply sE); rfl); conv => arg 3; whnf)
            refine sat_call (k_dec 0 0 0 0 0 0 0 0 ⟨by omega, by omega, by omega, by omega, by omega, by omega, by omega, by omega⟩) ?_
            rintro r H' ⟨rfl, rfl⟩
            (conv => arg 3; whnf); repeat ((first | (with_reducible apply sT); rfl | (with_reducible apply sF); rfl | (with_reducible apply sE); rfl); conv => arg 3; whnf)
            refine sat_asrt (by simp [roomy]) ?_
            (conv => arg 3; whnf); repeat ((first | (with_reducible apply sT); rfl | (with_reducible apply sF); rfl | (with_reducible apply sE); rfl); conv => arg 3; whnf)
            refine sat_rng (wrap64 (by omega) (by omega)) ?_
            exact sat_ret ⟨⟨1, R, true, [dec8 0 0 0 0 0 0 0 0], hi, rfl, (fun h => by cases h), fun _ => ⟨hR, hyes⟩⟩, rfl, rfl, by show p - (1) < p - 0; omega⟩
          · have hs : s = false := by
              cases s with
              | true => have := (yes rfl).1; omega
              | false => rfl
            obtain ⟨h1, h2, h3'⟩ := no hs
            have ha : 1 + 4 * (m + 1) + 2 + 8 * 0 + 8 ≤ L.length := by rw [h1, List.length_drop] at hR; omega
            have w := take8 hL ha
            rw [← h1] at w
            (conv => arg 3; whnf); repeat ((first | (with_reducible apply sT); rfl | (with_reducible apply sF); rfl | (with_reducible apply sE); rfl); conv => arg 3; whnf)
            refine sat_call (k_take R s 8 (by omega) hR) ?_
            rintro r H' ⟨rfl, rfl⟩
            (conv => arg 3; whnf); repeat ((first | (with_reducible apply sT); rfl | (with_reducible apply sF); rfl | (with_reducible apply sE); rfl); conv => arg 3; whnf)
            rw [w]
            refine sat_call (k_dec _ _ _ _ _ _ _ _ (by8 hL ha)) ?_
            rintro r H' ⟨rfl, rfl⟩
            (conv => arg 3; whnf); repeat ((first | (with_reducible apply sT); rfl | (with_reducible apply sF); rfl | (with_reducible apply sE); rfl); conv => arg 3; whnf)
            refine sat_asrt (by simp [roomy]) ?_
            (conv => arg 3; whnf); repeat ((first | (with_reducible apply sT); rfl | (with_reducible apply sF); rfl | (with_reducible apply sE); rfl); conv => arg 3; whnf)
            refine sat_rng (wrap64 (by omega) (by omega)) ?_
            exact sat_ret ⟨⟨1, R.drop 8, s, [insAt L (1 + 4 * (m + 1) + 2 + 8 * 0)], hi, rfl, fun _ => ⟨by rw [h1, List.drop_drop, show 1 + 4 * (m + 1) + 2 + 8 * 0 + 8 = 1 + 4 * (m + 1) + 2 + 8 * (1) from by omega], rfl, by omega⟩, fun h => by rw [hs] at h; cases h⟩, rfl, rfl, by show p - (1) < p - 0; omega⟩
        | succ i =>
          refine sat_br (fun hi => ?_) (fun hi => ?_)
          rotate_left
          · have hi : i + 1 = p := by have := of_decide_eq_false hi; omega
            subst hi
            (conv => arg 3; whnf); repeat ((first | (with_reducible apply sT); rfl | (with_reducible apply sF); rfl | (with_reducible apply sE); rfl); conv => arg 3; whnf)
            exact sat_ret ⟨rfl, rfl, R, s, Y, rfl, yl, no, yes⟩
          have hi : i + 1 < p := by have := of_decide_eq_true hi; omega
          rcases Nat.lt_or_ge R.length 8 with hR | hR
          · have hyes : L.length < 1 + 4 * (m + 1) + 2 + 8 * p := by
              cases s with
              | true => exact (yes rfl).2
              | false => obtain ⟨h1, _, h2⟩ := no rfl; rw [h1, List.length_drop] at hR; omega
            (conv => arg 3; whnf); repeat ((first | (with_reducible apply sT); rfl | (with_reducible apply sF); rfl | (with_reducible apply sE); rfl); conv => arg 3; whnf)
            refine sat_call (k_take_no R s 8 (by omega) hR) ?_
            rintro r H' ⟨rfl, rfl⟩
            (conv => arg 3; whnf); repeat ((first | (with_reducible apply sT); rfl | (with_reducible apply sF); rfl | (with_reducible apply sE); rfl); conv => arg 3; whnf)
            refine sat_call (k_dec 0 0 0 0 0 0 0 0 ⟨by omega, by omega, by omega, by omega, by omega, by omega, by omega, by omega⟩) ?_
            rintro r H' ⟨rfl, rfl⟩
            (conv => arg 3; whnf); repeat ((first | (with_reducible apply sT); rfl | (with_reducible apply sF); rfl | (with_reducible apply sE); rfl); conv => arg 3; whnf)
            refine sat_asrt (by simp) ?_
            refine sat_asrt (by simp [roomy]; omega) ?_
            refine sat_brT (Nat.beq_refl _) ?_
            (conv => arg 3; whnf); repeat ((first | (with_reducible apply sT); rfl | (with_reducible apply sF); rfl | (with_reducible apply sE); rfl); conv => arg 3; whnf)
            refine sat_rng (wrap64 (by omega) (by omega)) ?_
            exact sat_ret ⟨⟨i + 1 + 1, R, true, Y ++ [dec8 0 0 0 0 0 0 0 0], hi, by rw [List.length_append, yl]; rfl, (fun h => by cases h), fun _ => ⟨hR, hyes⟩⟩, rfl, rfl, by show p - (i + 1 + 1) < p - (i + 1); omega⟩
          · have hs : s = false := by
              cases s with
              | true => have := (yes rfl).1; omega
              | false => rfl
            obtain ⟨h1, h2, h3'⟩ := no hs
            have ha : 1 + 4 * (m + 1) + 2 + 8 * (i + 1) + 8 ≤ L.length := by rw [h1, List.length_drop] at hR; omega
            have w := take8 hL ha
            rw [← h1] at w
            (conv => arg 3; whnf); repeat ((first | (with_reducible apply sT); rfl | (with_reducible apply sF); rfl | (with_reducible apply sE); rfl); conv => arg 3; whnf)
            refine sat_call (k_take R s 8 (by omega) hR) ?_
            rintro r H' ⟨rfl, rfl⟩
            (conv => arg 3; whnf); repeat ((first | (with_reducible apply sT); rfl | (with_reducible apply sF); rfl | (with_reducible apply sE); rfl); conv => arg 3; whnf)
            rw [w]
            refine sat_call (k_dec _ _ _ _ _ _ _ _ (by8 hL ha)) ?_
            rintro r H' ⟨rfl, rfl⟩
            (conv => arg 3; whnf); repeat ((first | (with_reducible apply sT); rfl | (with_reducible apply sF); rfl | (with_reducible apply sE); rfl); conv => arg 3; whnf)
            refine sat_asrt (by simp) ?_
            refine sat_asrt (by simp [roomy]; omega) ?_
            refine sat_brT (Nat.beq_refl _) ?_
            (conv => arg 3; whnf); repeat ((first | (with_reducible apply sT); rfl | (with_reducible apply sF); rfl | (with_reducible apply sE); rfl); conv => arg 3; whnf)
            refine sat_rng (wrap64 (by omega) (by omega)) ?_
            exact sat_ret ⟨⟨i + 1 + 1, R.drop 8, s, Y ++ [insAt L (1 + 4 * (m + 1) + 2 + 8 * (i + 1))], hi, by rw [List.length_append, yl]; rfl, fun _ => ⟨by rw [h1, List.drop_drop, show 1 + 4 * (m + 1) + 2 + 8 * (i + 1) + 8 = 1 + 4 * (m + 1) + 2 + 8 * (i + 1 + 1) from by omega], by rw [insnAt_next L _ (i + 1), h2], by omega⟩, fun h => by rw [hs] at h; cases h⟩, rfl, rfl, by show p - (i + 1 + 1) < p - (i + 1); omega⟩
      · clear no yes hs hR f1 fR
        rintro ex fr' H' ⟨rfl, rfl, R, s, Y, rfl, yl, no, yes⟩
        cases p with
        | zero =>
          have yn : Y = [] := List.eq_nil_of_length_eq_zero yl
          subst yn
          (conv => arg 3; whnf); repeat ((first | (with_reducible apply sT); rfl | (with_reducible apply sF); rfl | (with_reducible apply sE); rfl); conv => arg 3; whnf)
          refine sat_br (fun hs => ?_) (fun hs => ?_)
          · subst hs
            have hy := (yes rfl).2
            have e : decB L = (im0, 4) := by unfold decB; rw [hm, Int.toNat_natCast, hp, Int.toNat_natCast]; rw [if_neg (by omega), if_neg (by omega), if_neg (by omega), if_neg (by omega), if_neg (by omega), if_pos (by omega)]
            rw [e]
            (conv => arg 3; whnf); repeat ((first | (with_reducible apply sT); rfl | (with_reducible apply sF); rfl | (with_reducible apply sE); rfl); conv => arg 3; whnf)
            exact sat_ret ⟨rfl, rfl⟩
          · obtain ⟨g1, g2, g3⟩ := no hs
            (conv => arg 3; whnf); repeat ((first | (with_reducible apply sT); rfl | (with_reducible apply sF); rfl | (with_reducible apply sE); rfl); conv => arg 3; whnf)
            refine sat_br (fun h => ?_) (fun h => ?_)
            · have h := of_decide_eq_true h
              have hlen : R.length > 0 := by omega
              rw [g1, List.length_drop] at hlen
              have e : decB L = (im0, 5) := by unfold decB; rw [hm, Int.toNat_natCast, hp, Int.toNat_natCast]; rw [if_neg (by omega), if_neg (by omega), if_neg (by omega), if_neg (by omega), if_neg (by omega), if_neg (by omega), if_pos (by omega)]
              rw [e]
              (conv => arg 3; whnf); repeat ((first | (with_reducible apply sT); rfl | (with_reducible apply sF); rfl | (with_reducible apply sE); rfl); conv => arg 3; whnf)
              exact sat_ret ⟨rfl, rfl⟩
            · have h := of_decide_eq_false h
              have hlen : R.length = 0 := by omega
              rw [g1, List.length_drop] at hlen
              have e : decB L = (⟨true, mapsAt L (m + 1), true, insnAt L (1 + 4 * (m + 1) + 2) 0⟩, 0) := by
                unfold decB; rw [hm, Int.toNat_natCast, hp, Int.toNat_natCast]
                rw [if_neg (by omega), if_neg (by omega), if_neg (by omega), if_neg (by omega), if_neg (by omega), if_neg (by omega), if_neg (by omega)]
              have ev : (decB L).1.v = imV (mapsAt L (m + 1)) (insnAt L (1 + 4 * (m + 1) + 2) 0) (m + 1) 0 := by
                rw [e]; show imV _ _ (mapsAt L (m + 1)).length (insnAt L (1 + 4 * (m + 1) + 2) 0).length = _
                rw [mapsAt_len, insnAt_len]
              rw [ev, show (decB L).2 = 0 by rw [e], ← f2, ← g2]
              clear ev e
              (conv => arg 3; whnf); repeat ((first | (with_reducible apply sT); rfl | (with_reducible apply sF); rfl | (with_reducible apply sE); rfl); conv => arg 3; whnf)
              exact sat_ret ⟨rfl, rfl⟩
        | succ p =>
          (conv => arg 3; whnf); repeat ((first | (with_reducible apply sT); rfl | (with_reducible apply sF); rfl | (with_reducible apply sE); rfl); conv => arg 3; whnf)
          refine sat_br (fun hs => ?_) (fun hs => ?_)
          · subst hs
            have hy := (yes rfl).2
            have e : decB L = (im0, 4) := by unfold decB; rw [hm, Int.toNat_natCast, hp, Int.toNat_natCast]; rw [if_neg (by omega), if_neg (by omega), if_neg (by omega), if_neg (by omega), if_neg (by omega), if_pos (by omega)]
            rw [e]
            (conv => arg 3; whnf); repeat ((first | (with_reducible apply sT); rfl | (with_reducible apply sF); rfl | (with_reducible apply sE); rfl); conv => arg 3; whnf)
            exact sat_ret ⟨rfl, rfl⟩
          · obtain ⟨g1, g2, g3⟩ := no hs
            (conv => arg 3; whnf); repeat ((first | (with_reducible apply sT); rfl | (with_reducible apply sF); rfl | (with_reducible apply sE); rfl); conv => arg 3; whnf)
            refine sat_br (fun h => ?_) (fun h => ?_)
            · have h := of_decide_eq_true h
              have hlen : R.length > 0 := by omega
              rw [g1, List.length_drop] at hlen
              have e : decB L = (im0, 5) := by unfold decB; rw [hm, Int.toNat_natCast, hp, Int.toNat_natCast]; rw [if_neg (by omega), if_neg (by omega), if_neg (by omega), if_neg (by omega), if_neg (by omega), if_neg (by omega), if_pos (by omega)]
              rw [e]
              (conv => arg 3; whnf); repeat ((first | (with_reducible apply sT); rfl | (with_reducible apply sF); rfl | (with_reducible apply sE); rfl); conv => arg 3; whnf)
              exact sat_ret ⟨rfl, rfl⟩
            · have h := of_decide_eq_false h
              have hlen : R.length = 0 := by omega
              rw [g1, List.length_drop] at hlen
              have e : decB L = (⟨true, mapsAt L (m + 1), true, insnAt L (1 + 4 * (m + 1) + 2) (p + 1)⟩, 0) := by
                unfold decB; rw [hm, Int.toNat_natCast, hp, Int.toNat_natCast]
                rw [if_neg (by omega), if_neg (by omega), if_neg (by omega), if_neg (by omega), if_neg (by omega), if_neg (by omega), if_neg (by omega)]
              have ev : (decB L).1.v = imV (mapsAt L (m + 1)) (insnAt L (1 + 4 * (m + 1) + 2) (p + 1)) (m + 1) (p + 1) := by
                rw [e]; show imV _ _ (mapsAt L (m + 1)).length (insnAt L (1 + 4 * (m + 1) + 2) (p + 1)).length = _
                rw [mapsAt_len, insnAt_len]
              rw [ev, show (decB L).2 = 0 by rw [e], ← f2, ← g2]
              clear ev e
              (conv => arg 3; whnf); repeat ((first | (with_reducible apply sT); rfl | (with_reducible apply sF); rfl | (with_reducible apply sE); rfl); conv => arg 3; whnf)
              exact sat_ret ⟨rfl, rfl⟩
end Stk
