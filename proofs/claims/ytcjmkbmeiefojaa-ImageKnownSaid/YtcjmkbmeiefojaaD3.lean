/- The document's image out of bytes. -/
import Derived.Test.YtcjmkbmeiefojaaD2
namespace Stk
open Go
set_option maxRecDepth 100000
set_option linter.unusedSimpArgs false
set_option linter.unusedVariables false
set_option maxHeartbeats 4000000
def AllB (L : List Tr) : Prop := ∀ y ∈ L, ∃ v, y = u8 v ∧ 0 ≤ v ∧ v ≤ 255
def byt (L : List Tr) (i : Nat) : Int := match L[i]? with
  | some (.int _ v) => v
  | _ => 0
theorem AllB.get {L : List Tr} (h : AllB L) {i : Nat} (hi : i < L.length) : L[i]? = some (u8 (byt L i)) ∧ 0 ≤ byt L i ∧ byt L i ≤ 255 := by
  obtain ⟨v, e, h1, h2⟩ := h _ (List.getElem_mem hi)
  have : L[i]? = some (u8 v) := by rw [List.getElem?_eq_getElem hi, e]
  unfold byt
  rw [this]
  exact ⟨rfl, h1, h2⟩
def mapAt (L : List Tr) (i : Nat) : Tr := mapT (byt L (1 + 4 * i)) (byt L (2 + 4 * i)) (byt L (3 + 4 * i)) (byt L (4 + 4 * i))
def insAt (L : List Tr) (a : Nat) : Tr := dec8 (byt L a) (byt L (a + 1)) (byt L (a + 2)) (byt L (a + 3)) (byt L (a + 4)) (byt L (a + 5)) (byt L (a + 6)) (byt L (a + 7))
def mapsAt (L : List Tr) (m : Nat) : List Tr := (List.range m).map (mapAt L)
def insnAt (L : List Tr) (a p : Nat) : List Tr := (List.range p).map fun i => insAt L (a + 8 * i)
def im0 : Im := ⟨true, [], true, []⟩
/-- What bytes are as an image. -/
def decB (L : List Tr) : Im × Int :=
  if L.length > 65536 then (im0, 3) else if L.length < 1 then (im0, 4) else
  if byt L 0 > 4 then (im0, 5) else
  if L.length < 1 + 4 * (byt L 0).toNat + 2 then (im0, 4) else
  if byt L (1 + 4 * (byt L 0).toNat) + 256 * byt L (1 + 4 * (byt L 0).toNat + 1) > 512 then (im0, 5) else
  if L.length < 1 + 4 * (byt L 0).toNat + 2 + 8 * (byt L (1 + 4 * (byt L 0).toNat) + 256 * byt L (1 + 4 * (byt L 0).toNat + 1)).toNat then (im0, 4) else
  if L.length > 1 + 4 * (byt L 0).toNat + 2 + 8 * (byt L (1 + 4 * (byt L 0).toNat) + 256 * byt L (1 + 4 * (byt L 0).toNat + 1)).toNat then (im0, 5) else
  (⟨true, mapsAt L (byt L 0).toNat, true, insnAt L (1 + 4 * (byt L 0).toNat + 2) (byt L (1 + 4 * (byt L 0).toNat) + 256 * byt L (1 + 4 * (byt L 0).toNat + 1)).toNat⟩, 0)
theorem mapsAt_next (L : List Tr) (i : Nat) : mapsAt L (i + 1) = mapsAt L i ++ [mapAt L i] := by
  unfold mapsAt
  rw [List.range_succ, List.map_append]; rfl
theorem insnAt_next (L : List Tr) (a i : Nat) : insnAt L a (i + 1) = insnAt L a i ++ [insAt L (a + 8 * i)] := by
  unfold insnAt
  rw [List.range_succ, List.map_append]; rfl
theorem cut8 {L : List Tr} (h : AllB L) {a : Nat} (ha : a + 8 ≤ L.length) : (L.take (a + 8)).drop a = l8 (byt L a) (byt L (a + 1)) (byt L (a + 2)) (byt L (a + 3)) (byt L (a + 4)) (byt L (a + 5)) (byt L (a + 6)) (byt L (a + 7)) := by
  apply List.ext_getElem?
  intro i
  rw [List.getElem?_drop, List.getElem?_take]
  match i with
  | 0 => rw [if_pos (by omega)]; exact (h.get (show a < L.length by omega)).1
  | 1 => rw [if_pos (by omega)]; exact (h.get (show a + 1 < L.length by omega)).1
  | 2 => rw [if_pos (by omega)]; exact (h.get (show a + 2 < L.length by omega)).1
  | 3 => rw [if_pos (by omega)]; exact (h.get (show a + 3 < L.length by omega)).1
  | 4 => rw [if_pos (by omega)]; exact (h.get (show a + 4 < L.length by omega)).1
  | 5 => rw [if_pos (by omega)]; exact (h.get (show a + 5 < L.length by omega)).1
  | 6 => rw [if_pos (by omega)]; exact (h.get (show a + 6 < L.length by omega)).1
  | 7 => rw [if_pos (by omega)]; exact (h.get (show a + 7 < L.length by omega)).1
  | i + 8 => rw [if_neg (by omega)]; rfl
theorem by8 {L : List Tr} (h : AllB L) {a : Nat} (ha : a + 8 ≤ L.length) : By8 (byt L a) (byt L (a + 1)) (byt L (a + 2)) (byt L (a + 3)) (byt L (a + 4)) (byt L (a + 5)) (byt L (a + 6)) (byt L (a + 7)) :=
  ⟨(h.get (show a < L.length by omega)).2, (h.get (show a + 1 < L.length by omega)).2, (h.get (show a + 2 < L.length by omega)).2, (h.get (show a + 3 < L.length by omega)).2, (h.get (show a + 4 < L.length by omega)).2, (h.get (show a + 5 < L.length by omega)).2, (h.get (show a + 6 < L.length by omega)).2, (h.get (show a + 7 < L.length by omega)).2⟩
abbrev nilI : AV := .t (.agg [.sl true 4 [], .sl true 5 []])
/-- The image under way, its maps alone. -/
def mV (X : List Tr) : Nat → Hp
  | 0 => [.var nilI, .var nilI]
  | n + 1 => [.var nilI, .var (.agg [.sl 2 0 [] 0 X.length none, .t (.sl true 5 [])]), .row 4 X]
/-- The image under way: its maps and its places. -/
def cV (X Y : List Tr) : Nat → Nat → Hp
  | 0, 0 => [.var nilI, .var nilI]
  | 0, _ + 1 => [.var nilI, .var (.agg [.t (.sl true 4 []), .sl 2 0 [] 0 Y.length none]), .row 5 Y]
  | _ + 1, 0 => [.var nilI, .var (.agg [.sl 2 0 [] 0 X.length none, .t (.sl true 5 [])]), .row 4 X]
  | _ + 1, _ + 1 => [.var nilI, .var (.agg [.sl 2 0 [] 0 X.length none, .sl 3 0 [] 0 Y.length none]), .row 4 X, .row 5 Y]
structure ISt (m : Nat) where
  i : Nat
  im : i ≤ m
/-- An image that was made: lists without elements are nil. -/
def imV (X Y : List Tr) : Nat → Nat → AV × Hp
  | 0, 0 => (nilI, [])
  | 0, _ + 1 => (.agg [.t (.sl true 4 []), .sl 0 0 [] 0 Y.length none], [.row 5 Y])
  | _ + 1, 0 => (.agg [.sl 0 0 [] 0 X.length none, .t (.sl true 5 [])], [.row 4 X])
  | _ + 1, _ + 1 => (.agg [.sl 0 0 [] 0 X.length none, .sl 1 0 [] 0 Y.length none], [.row 4 X, .row 5 Y])
abbrev Im.v (x : Im) : AV × Hp := imV x.A x.B x.A.length x.B.length
theorem mapsAt_len (L : List Tr) (m : Nat) : (mapsAt L m).length = m := by simp [mapsAt]
theorem insnAt_len (L : List Tr) (a m : Nat) : (insnAt L a m).length = m := by simp [insnAt]
theorem r_decode (L : List Tr) (hL : AllB L) (hl : L.length ≤ 2 ^ 47) : ACalls PP GG F.ref16_Decode [.bz 1 L] [] fun r H' => r = .tup [(decB L).1.v.1, ti (decB L).2] ∧ H' = (decB L).1.v.2 := by
  refine K.ref16_Decode.callsC rfl ?_
  (conv => arg 3; whnf); repeat (first | ((with_reducible refine sat_brT ?_ ?_); rfl; conv => arg 3; whnf) | ((with_reducible refine sat_brF ?_ ?_); rfl; conv => arg 3; whnf) | ((with_reducible refine sat_eqv ?_ ?_); rfl; conv => arg 3; whnf))
  refine sat_br (fun h => ?_) (fun h => ?_)
  · have h := of_decide_eq_true h
    have e : decB L = (im0, 3) := by unfold decB; rw [if_pos (by omega)]
    rw [e]
    (conv => arg 3; whnf); repeat (first | ((with_reducible refine sat_brT ?_ ?_); rfl; conv => arg 3; whnf) | ((with_reducible refine sat_brF ?_ ?_); rfl; conv => arg 3; whnf) | ((with_reducible refine sat_eqv ?_ ?_); rfl; conv => arg 3; whnf))
    exact sat_ret ⟨rfl, rfl⟩
  have h3 := of_decide_eq_false h
  (conv => arg 3; whnf); repeat (first | ((with_reducible refine sat_brT ?_ ?_); rfl; conv => arg 3; whnf) | ((with_reducible refine sat_brF ?_ ?_); rfl; conv => arg 3; whnf) | ((with_reducible refine sat_eqv ?_ ?_); rfl; conv => arg 3; whnf))
  refine sat_br (fun h => ?_) (fun h => ?_)
  · have h := of_decide_eq_true h
    have e : decB L = (im0, 4) := by unfold decB; rw [if_neg (by omega), if_pos (by omega)]
    rw [e]
    (conv => arg 3; whnf); repeat (first | ((with_reducible refine sat_brT ?_ ?_); rfl; conv => arg 3; whnf) | ((with_reducible refine sat_brF ?_ ?_); rfl; conv => arg 3; whnf) | ((with_reducible refine sat_eqv ?_ ?_); rfl; conv => arg 3; whnf))
    exact sat_ret ⟨rfl, rfl⟩
  have h4 := of_decide_eq_false h
  obtain ⟨g0, r0⟩ := hL.get (show 0 < L.length by omega)
  obtain ⟨m, hm⟩ : ∃ m : Nat, byt L 0 = m := ⟨(byt L 0).toNat, by omega⟩
  rw [hm] at g0
  (conv => arg 3; whnf); repeat (first | ((with_reducible refine sat_brT ?_ ?_); rfl; conv => arg 3; whnf) | ((with_reducible refine sat_brF ?_ ?_); rfl; conv => arg 3; whnf) | ((with_reducible refine sat_eqv ?_ ?_); rfl; conv => arg 3; whnf))
  refine sat_idx (u8 m) (by simp) (by simpa using g0) ?_
  (conv => arg 3; whnf); repeat (first | ((with_reducible refine sat_brT ?_ ?_); rfl; conv => arg 3; whnf) | ((with_reducible refine sat_brF ?_ ?_); rfl; conv => arg 3; whnf) | ((with_reducible refine sat_eqv ?_ ?_); rfl; conv => arg 3; whnf))
  refine sat_rng (wrap64 (by omega) (by omega)) ?_
  (conv => arg 3; whnf); repeat (first | ((with_reducible refine sat_brT ?_ ?_); rfl; conv => arg 3; whnf) | ((with_reducible refine sat_brF ?_ ?_); rfl; conv => arg 3; whnf) | ((with_reducible refine sat_eqv ?_ ?_); rfl; conv => arg 3; whnf))
  refine sat_br (fun h => ?_) (fun h => ?_)
  · have h := of_decide_eq_true h
    have e : decB L = (im0, 5) := by unfold decB; rw [hm]; rw [if_neg (by omega), if_neg (by omega), if_pos (by omega)]
    rw [e]
    (conv => arg 3; whnf); repeat (first | ((with_reducible refine sat_brT ?_ ?_); rfl; conv => arg 3; whnf) | ((with_reducible refine sat_brF ?_ ?_); rfl; conv => arg 3; whnf) | ((with_reducible refine sat_eqv ?_ ?_); rfl; conv => arg 3; whnf))
    exact sat_ret ⟨rfl, rfl⟩
  have h5 := of_decide_eq_false h
  have hm4 : m ≤ 4 := by omega
  (conv => arg 3; whnf); repeat (first | ((with_reducible refine sat_brT ?_ ?_); rfl; conv => arg 3; whnf) | ((with_reducible refine sat_brF ?_ ?_); rfl; conv => arg 3; whnf) | ((with_reducible refine sat_eqv ?_ ?_); rfl; conv => arg 3; whnf))
  refine sat_rng (wrap64 (by omega) (by omega)) ?_
  (conv => arg 3; whnf); repeat (first | ((with_reducible refine sat_brT ?_ ?_); rfl; conv => arg 3; whnf) | ((with_reducible refine sat_brF ?_ ?_); rfl; conv => arg 3; whnf) | ((with_reducible refine sat_eqv ?_ ?_); rfl; conv => arg 3; whnf))
  refine sat_rng (wrap64 (by omega) (by omega)) ?_
  (conv => arg 3; whnf); repeat (first | ((with_reducible refine sat_brT ?_ ?_); rfl; conv => arg 3; whnf) | ((with_reducible refine sat_brF ?_ ?_); rfl; conv => arg 3; whnf) | ((with_reducible refine sat_eqv ?_ ?_); rfl; conv => arg 3; whnf))
  refine sat_rng (wrap64 (by omega) (by omega)) ?_
  (conv => arg 3; whnf); repeat (first | ((with_reducible refine sat_brT ?_ ?_); rfl; conv => arg 3; whnf) | ((with_reducible refine sat_brF ?_ ?_); rfl; conv => arg 3; whnf) | ((with_reducible refine sat_eqv ?_ ?_); rfl; conv => arg 3; whnf))
  refine sat_br (fun h => ?_) (fun h => ?_)
  · have h := of_decide_eq_true h
    have e : decB L = (im0, 4) := by unfold decB; rw [hm, Int.toNat_natCast]; rw [if_neg (by omega), if_neg (by omega), if_neg (by omega), if_pos (by omega)]
    rw [e]
    (conv => arg 3; whnf); repeat (first | ((with_reducible refine sat_brT ?_ ?_); rfl; conv => arg 3; whnf) | ((with_reducible refine sat_brF ?_ ?_); rfl; conv => arg 3; whnf) | ((with_reducible refine sat_eqv ?_ ?_); rfl; conv => arg 3; whnf))
    exact sat_ret ⟨rfl, rfl⟩
  have h6 := of_decide_eq_false h
  obtain ⟨g1, r1⟩ := hL.get (show 1 + 4 * m < L.length by omega)
  obtain ⟨g2, r2⟩ := hL.get (show 1 + 4 * m + 1 < L.length by omega)
  obtain ⟨p, hp⟩ : ∃ p : Nat, byt L (1 + 4 * m) + 256 * byt L (1 + 4 * m + 1) = p := ⟨(byt L (1 + 4 * m) + 256 * byt L (1 + 4 * m + 1)).toNat, by omega⟩
  have t1 : ((1 : Int) + 4 * m).toNat = 1 + 4 * m := by omega
  have t2 : ((1 : Int) + 4 * m + 1).toNat = 1 + 4 * m + 1 := by omega
  (conv => arg 3; whnf); repeat (first | ((with_reducible refine sat_brT ?_ ?_); rfl; conv => arg 3; whnf) | ((with_reducible refine sat_brF ?_ ?_); rfl; conv => arg 3; whnf) | ((with_reducible refine sat_eqv ?_ ?_); rfl; conv => arg 3; whnf))
  refine sat_idx (u8 (byt L (1 + 4 * m))) (by omega) (by rw [t1]; exact g1) ?_
  (conv => arg 3; whnf); repeat (first | ((with_reducible refine sat_brT ?_ ?_); rfl; conv => arg 3; whnf) | ((with_reducible refine sat_brF ?_ ?_); rfl; conv => arg 3; whnf) | ((with_reducible refine sat_eqv ?_ ?_); rfl; conv => arg 3; whnf))
  refine sat_rng (wrap64 (by omega) (by omega)) ?_
  (conv => arg 3; whnf); repeat (first | ((with_reducible refine sat_brT ?_ ?_); rfl; conv => arg 3; whnf) | ((with_reducible refine sat_brF ?_ ?_); rfl; conv => arg 3; whnf) | ((with_reducible refine sat_eqv ?_ ?_); rfl; conv => arg 3; whnf))
  refine sat_rng (wrap64 (by omega) (by omega)) ?_
  (conv => arg 3; whnf); repeat (first | ((with_reducible refine sat_brT ?_ ?_); rfl; conv => arg 3; whnf) | ((with_reducible refine sat_brF ?_ ?_); rfl; conv => arg 3; whnf) | ((with_reducible refine sat_eqv ?_ ?_); rfl; conv => arg 3; whnf))
  refine sat_idx (u8 (byt L (1 + 4 * m + 1))) (by omega) (by rw [t2]; exact g2) ?_
  (conv => arg 3; whnf); repeat (first | ((with_reducible refine sat_brT ?_ ?_); rfl; conv => arg 3; whnf) | ((with_reducible refine sat_brF ?_ ?_); rfl; conv => arg 3; whnf) | ((with_reducible refine sat_eqv ?_ ?_); rfl; conv => arg 3; whnf))
  refine sat_rng (wrap64 (by omega) (by omega)) ?_
  (conv => arg 3; whnf); repeat (first | ((with_reducible refine sat_brT ?_ ?_); rfl; conv => arg 3; whnf) | ((with_reducible refine sat_brF ?_ ?_); rfl; conv => arg 3; whnf) | ((with_reducible refine sat_eqv ?_ ?_); rfl; conv => arg 3; whnf))
  refine sat_rng (wrap64 (by omega) (by omega)) ?_
  (conv => arg 3; whnf); repeat (first | ((with_reducible refine sat_brT ?_ ?_); rfl; conv => arg 3; whnf) | ((with_reducible refine sat_brF ?_ ?_); rfl; conv => arg 3; whnf) | ((with_reducible refine sat_eqv ?_ ?_); rfl; conv => arg 3; whnf))
  refine sat_rng (wrap64 (by omega) (by omega)) ?_
  rw [hp]
  (conv => arg 3; whnf); repeat (first | ((with_reducible refine sat_brT ?_ ?_); rfl; conv => arg 3; whnf) | ((with_reducible refine sat_brF ?_ ?_); rfl; conv => arg 3; whnf) | ((with_reducible refine sat_eqv ?_ ?_); rfl; conv => arg 3; whnf))
  refine sat_br (fun h => ?_) (fun h => ?_)
  · have h := of_decide_eq_true h
    have e : decB L = (im0, 5) := by unfold decB; rw [hm, Int.toNat_natCast, hp]; rw [if_neg (by omega), if_neg (by omega), if_neg (by omega), if_neg (by omega), if_pos (by omega)]
    rw [e]
    (conv => arg 3; whnf); repeat (first | ((with_reducible refine sat_brT ?_ ?_); rfl; conv => arg 3; whnf) | ((with_reducible refine sat_brF ?_ ?_); rfl; conv => arg 3; whnf) | ((with_reducible refine sat_eqv ?_ ?_); rfl; conv => arg 3; whnf))
    exact sat_ret ⟨rfl, rfl⟩
  have h7 := of_decide_eq_false h
  (conv => arg 3; whnf); repeat (first | ((with_reducible refine sat_brT ?_ ?_); rfl; conv => arg 3; whnf) | ((with_reducible refine sat_brF ?_ ?_); rfl; conv => arg 3; whnf) | ((with_reducible refine sat_eqv ?_ ?_); rfl; conv => arg 3; whnf))
  refine sat_rng (wrap64 (by omega) (by omega)) ?_
  (conv => arg 3; whnf); repeat (first | ((with_reducible refine sat_brT ?_ ?_); rfl; conv => arg 3; whnf) | ((with_reducible refine sat_brF ?_ ?_); rfl; conv => arg 3; whnf) | ((with_reducible refine sat_eqv ?_ ?_); rfl; conv => arg 3; whnf))
  refine sat_rng (wrap64 (by omega) (by omega)) ?_
  (conv => arg 3; whnf); repeat (first | ((with_reducible refine sat_brT ?_ ?_); rfl; conv => arg 3; whnf) | ((with_reducible refine sat_brF ?_ ?_); rfl; conv => arg 3; whnf) | ((with_reducible refine sat_eqv ?_ ?_); rfl; conv => arg 3; whnf))
  refine sat_rng (wrap64 (by omega) (by omega)) ?_
  (conv => arg 3; whnf); repeat (first | ((with_reducible refine sat_brT ?_ ?_); rfl; conv => arg 3; whnf) | ((with_reducible refine sat_brF ?_ ?_); rfl; conv => arg 3; whnf) | ((with_reducible refine sat_eqv ?_ ?_); rfl; conv => arg 3; whnf))
  refine sat_br (fun h => ?_) (fun h => ?_)
  · have h := of_decide_eq_true h
    have e : decB L = (im0, 4) := by unfold decB; rw [hm, Int.toNat_natCast, hp, Int.toNat_natCast]; rw [if_neg (by omega), if_neg (by omega), if_neg (by omega), if_neg (by omega), if_neg (by omega), if_pos (by omega)]
    rw [e]
    (conv => arg 3; whnf); repeat (first | ((with_reducible refine sat_brT ?_ ?_); rfl; conv => arg 3; whnf) | ((with_reducible refine sat_brF ?_ ?_); rfl; conv => arg 3; whnf) | ((with_reducible refine sat_eqv ?_ ?_); rfl; conv => arg 3; whnf))
    exact sat_ret ⟨rfl, rfl⟩
  have h8 := of_decide_eq_false h
  (conv => arg 3; whnf); repeat (first | ((with_reducible refine sat_brT ?_ ?_); rfl; conv => arg 3; whnf) | ((with_reducible refine sat_brF ?_ ?_); rfl; conv => arg 3; whnf) | ((with_reducible refine sat_eqv ?_ ?_); rfl; conv => arg 3; whnf))
  refine sat_rng (wrap64 (by omega) (by omega)) ?_
  (conv => arg 3; whnf); repeat (first | ((with_reducible refine sat_brT ?_ ?_); rfl; conv => arg 3; whnf) | ((with_reducible refine sat_brF ?_ ?_); rfl; conv => arg 3; whnf) | ((with_reducible refine sat_eqv ?_ ?_); rfl; conv => arg 3; whnf))
  refine sat_rng (wrap64 (by omega) (by omega)) ?_
  (conv => arg 3; whnf); repeat (first | ((with_reducible refine sat_brT ?_ ?_); rfl; conv => arg 3; whnf) | ((with_reducible refine sat_brF ?_ ?_); rfl; conv => arg 3; whnf) | ((with_reducible refine sat_eqv ?_ ?_); rfl; conv => arg 3; whnf))
  refine sat_rng (wrap64 (by omega) (by omega)) ?_
  (conv => arg 3; whnf); repeat (first | ((with_reducible refine sat_brT ?_ ?_); rfl; conv => arg 3; whnf) | ((with_reducible refine sat_brF ?_ ?_); rfl; conv => arg 3; whnf) | ((with_reducible refine sat_eqv ?_ ?_); rfl; conv => arg 3; whnf))
  refine sat_br (fun h => ?_) (fun h => ?_)
  · have h := of_decide_eq_true h
    have e : decB L = (im0, 5) := by unfold decB; rw [hm, Int.toNat_natCast, hp, Int.toNat_natCast]; rw [if_neg (by omega), if_neg (by omega), if_neg (by omega), if_neg (by omega), if_neg (by omega), if_neg (by omega), if_pos (by omega)]
    rw [e]
    (conv => arg 3; whnf); repeat (first | ((with_reducible refine sat_brT ?_ ?_); rfl; conv => arg 3; whnf) | ((with_reducible refine sat_brF ?_ ?_); rfl; conv => arg 3; whnf) | ((with_reducible refine sat_eqv ?_ ?_); rfl; conv => arg 3; whnf))
    exact sat_ret ⟨rfl, rfl⟩
  have h9 := of_decide_eq_false h
  have e : decB L = (⟨true, mapsAt L m, true, insnAt L (1 + 4 * m + 2) p⟩, 0) := by
    unfold decB; rw [hm, Int.toNat_natCast, hp, Int.toNat_natCast]
    rw [if_neg (by omega), if_neg (by omega), if_neg (by omega), if_neg (by omega), if_neg (by omega), if_neg (by omega), if_neg (by omega)]
  have ev : (decB L).1.v = imV (mapsAt L m) (insnAt L (1 + 4 * m + 2) p) m p := by
    rw [e]; show imV _ _ (mapsAt L m).length (insnAt L (1 + 4 * m + 2) p).length = _
    rw [mapsAt_len, insnAt_len]
  rw [ev, show (decB L).2 = 0 by rw [e]]
  clear ev e
  (conv => arg 3; whnf); repeat (first | ((with_reducible refine sat_brT ?_ ?_); rfl; conv => arg 3; whnf) | ((with_reducible refine sat_brF ?_ ?_); rfl; conv => arg 3; whnf) | ((with_reducible refine sat_eqv ?_ ?_); rfl; conv => arg 3; whnf))
  refine sat_loopOf mkX_ops (σ := ISt m) (fun s => [(0, .bz 1 L), (2, pt 0), (4, ti m), (5, ti (1 + 4 * m)), (6, ti p), (7, pt 1), (8, ti s.i)]) (fun s => mV (mapsAt L s.i) s.i) (fun s => m - s.i)
    (fun ex fr' H' => ex = .exit 0 ∧ fr' = [(0, .bz 1 L), (2, pt 0), (5, ti (1 + 4 * m)), (6, ti p), (7, pt 1)] ∧ H' = mV (mapsAt L m) m) ⟨0, Nat.zero_le _⟩ ?_ ?_
  · rintro ⟨i, im⟩
    dsimp only
    cases i with
    | zero =>
    refine sat_br (fun hi => ?_) (fun hi => ?_)
    · have hi : 0 < m := by have := of_decide_eq_true hi; omega
      obtain ⟨a1, b1⟩ := hL.get (show 1 + 4 * 0 < L.length by omega)
      obtain ⟨a2, b2⟩ := hL.get (show 2 + 4 * 0 < L.length by omega)
      obtain ⟨a3, b3⟩ := hL.get (show 3 + 4 * 0 < L.length by omega)
      obtain ⟨a4, b4⟩ := hL.get (show 4 + 4 * 0 < L.length by omega)
      have z1 : ((1 : Int) + 4 * (0 : Nat)).toNat = 1 + 4 * 0 := by omega
      have z2 : ((2 : Int) + 4 * (0 : Nat)).toNat = 2 + 4 * 0 := by omega
      have z3 : ((3 : Int) + 4 * (0 : Nat)).toNat = 3 + 4 * 0 := by omega
      have z4 : ((4 : Int) + 4 * (0 : Nat)).toNat = 4 + 4 * 0 := by omega
      (conv => arg 3; whnf); repeat (first | ((with_reducible refine sat_brT ?_ ?_); rfl; conv => arg 3; whnf) | ((with_reducible refine sat_brF ?_ ?_); rfl; conv => arg 3; whnf) | ((with_reducible refine sat_eqv ?_ ?_); rfl; conv => arg 3; whnf))
      repeat ((with_reducible refine sat_rng ?_ ?_); (exact wrap64 (by omega) (by omega)); (conv => arg 3; whnf); repeat (first | ((with_reducible refine sat_brT ?_ ?_); rfl; conv => arg 3; whnf) | ((with_reducible refine sat_brF ?_ ?_); rfl; conv => arg 3; whnf) | ((with_reducible refine sat_eqv ?_ ?_); rfl; conv => arg 3; whnf)))
      refine sat_idx (u8 (byt L (1 + 4 * 0))) (by omega) (by rw [z1]; exact a1) ?_
      (conv => arg 3; whnf); repeat (first | ((with_reducible refine sat_brT ?_ ?_); rfl; conv => arg 3; whnf) | ((with_reducible refine sat_brF ?_ ?_); rfl; conv => arg 3; whnf) | ((with_reducible refine sat_eqv ?_ ?_); rfl; conv => arg 3; whnf))
      repeat ((with_reducible refine sat_rng ?_ ?_); (exact wrap64 (by omega) (by omega)); (conv => arg 3; whnf); repeat (first | ((with_reducible refine sat_brT ?_ ?_); rfl; conv => arg 3; whnf) | ((with_reducible refine sat_brF ?_ ?_); rfl; conv => arg 3; whnf) | ((with_reducible refine sat_eqv ?_ ?_); rfl; conv => arg 3; whnf)))
      refine sat_idx (u8 (byt L (2 + 4 * 0))) (by omega) (by rw [z2]; exact a2) ?_
      (conv => arg 3; whnf); repeat (first | ((with_reducible refine sat_brT ?_ ?_); rfl; conv => arg 3; whnf) | ((with_reducible refine sat_brF ?_ ?_); rfl; conv => arg 3; whnf) | ((with_reducible refine sat_eqv ?_ ?_); rfl; conv => arg 3; whnf))
      repeat ((with_reducible refine sat_rng ?_ ?_); (exact wrap64 (by omega) (by omega)); (conv => arg 3; whnf); repeat (first | ((with_reducible refine sat_brT ?_ ?_); rfl; conv => arg 3; whnf) | ((with_reducible refine sat_brF ?_ ?_); rfl; conv => arg 3; whnf) | ((with_reducible refine sat_eqv ?_ ?_); rfl; conv => arg 3; whnf)))
      refine sat_idx (u8 (byt L (3 + 4 * 0))) (by omega) (by rw [z3]; exact a3) ?_
      (conv => arg 3; whnf); repeat (first | ((with_reducible refine sat_brT ?_ ?_); rfl; conv => arg 3; whnf) | ((with_reducible refine sat_brF ?_ ?_); rfl; conv => arg 3; whnf) | ((with_reducible refine sat_eqv ?_ ?_); rfl; conv => arg 3; whnf))
      repeat ((with_reducible refine sat_rng ?_ ?_); (exact wrap64 (by omega) (by omega)); (conv => arg 3; whnf); repeat (first | ((with_reducible refine sat_brT ?_ ?_); rfl; conv => arg 3; whnf) | ((with_reducible refine sat_brF ?_ ?_); rfl; conv => arg 3; whnf) | ((with_reducible refine sat_eqv ?_ ?_); rfl; conv => arg 3; whnf)))
      refine sat_idx (u8 (byt L (4 + 4 * 0))) (by omega) (by rw [z4]; exact a4) ?_
      (conv => arg 3; whnf); repeat (first | ((with_reducible refine sat_brT ?_ ?_); rfl; conv => arg 3; whnf) | ((with_reducible refine sat_brF ?_ ?_); rfl; conv => arg 3; whnf) | ((with_reducible refine sat_eqv ?_ ?_); rfl; conv => arg 3; whnf))
      repeat ((with_reducible refine sat_rng ?_ ?_); (exact wrap64 (by omega) (by omega)); (conv => arg 3; whnf); repeat (first | ((with_reducible refine sat_brT ?_ ?_); rfl; conv => arg 3; whnf) | ((with_reducible refine sat_brF ?_ ?_); rfl; conv => arg 3; whnf) | ((with_reducible refine sat_eqv ?_ ?_); rfl; conv => arg 3; whnf)))
      refine sat_asrt (by simp [roomy]) ?_
      (conv => arg 3; whnf); repeat (first | ((with_reducible refine sat_brT ?_ ?_); rfl; conv => arg 3; whnf) | ((with_reducible refine sat_brF ?_ ?_); rfl; conv => arg 3; whnf) | ((with_reducible refine sat_eqv ?_ ?_); rfl; conv => arg 3; whnf))
      refine sat_rng (wrap64 (by omega) (by omega)) ?_
      exact sat_ret ⟨⟨1, hi⟩, rfl, rfl, by show m - 1 < m - 0; omega⟩
    · have hi : 0 = m := by have := of_decide_eq_false hi; omega
      subst hi
      (conv => arg 3; whnf); repeat (first | ((with_reducible refine sat_brT ?_ ?_); rfl; conv => arg 3; whnf) | ((with_reducible refine sat_brF ?_ ?_); rfl; conv => arg 3; whnf) | ((with_reducible refine sat_eqv ?_ ?_); rfl; conv => arg 3; whnf))
      exact sat_ret ⟨rfl, rfl, rfl⟩
    | succ i =>
    refine sat_br (fun hi => ?_) (fun hi => ?_)
    · have hi : (i + 1) < m := by have := of_decide_eq_true hi; omega
      obtain ⟨a1, b1⟩ := hL.get (show 1 + 4 * (i + 1) < L.length by omega)
      obtain ⟨a2, b2⟩ := hL.get (show 2 + 4 * (i + 1) < L.length by omega)
      obtain ⟨a3, b3⟩ := hL.get (show 3 + 4 * (i + 1) < L.length by omega)
      obtain ⟨a4, b4⟩ := hL.get (show 4 + 4 * (i + 1) < L.length by omega)
      have z1 : ((1 : Int) + 4 * ((i + 1) : Nat)).toNat = 1 + 4 * (i + 1) := by omega
      have z2 : ((2 : Int) + 4 * ((i + 1) : Nat)).toNat = 2 + 4 * (i + 1) := by omega
      have z3 : ((3 : Int) + 4 * ((i + 1) : Nat)).toNat = 3 + 4 * (i + 1) := by omega
      have z4 : ((4 : Int) + 4 * ((i + 1) : Nat)).toNat = 4 + 4 * (i + 1) := by omega
      (conv => arg 3; whnf); repeat (first | ((with_reducible refine sat_brT ?_ ?_); rfl; conv => arg 3; whnf) | ((with_reducible refine sat_brF ?_ ?_); rfl; conv => arg 3; whnf) | ((with_reducible refine sat_eqv ?_ ?_); rfl; conv => arg 3; whnf))
      repeat ((with_reducible refine sat_rng ?_ ?_); (exact wrap64 (by omega) (by omega)); (conv => arg 3; whnf); repeat (first | ((with_reducible refine sat_brT ?_ ?_); rfl; conv => arg 3; whnf) | ((with_reducible refine sat_brF ?_ ?_); rfl; conv => arg 3; whnf) | ((with_reducible refine sat_eqv ?_ ?_); rfl; conv => arg 3; whnf)))
      refine sat_idx (u8 (byt L (1 + 4 * (i + 1)))) (by omega) (by rw [z1]; exact a1) ?_
      (conv => arg 3; whnf); repeat (first | ((with_reducible refine sat_brT ?_ ?_); rfl; conv => arg 3; whnf) | ((with_reducible refine sat_brF ?_ ?_); rfl; conv => arg 3; whnf) | ((with_reducible refine sat_eqv ?_ ?_); rfl; conv => arg 3; whnf))
      repeat ((with_reducible refine sat_rng ?_ ?_); (exact wrap64 (by omega) (by omega)); (conv => arg 3; whnf); repeat (first | ((with_reducible refine sat_brT ?_ ?_); rfl; conv => arg 3; whnf) | ((with_reducible refine sat_brF ?_ ?_); rfl; conv => arg 3; whnf) | ((with_reducible refine sat_eqv ?_ ?_); rfl; conv => arg 3; whnf)))
      refine sat_idx (u8 (byt L (2 + 4 * (i + 1)))) (by omega) (by rw [z2]; exact a2) ?_
      (conv => arg 3; whnf); repeat (first | ((with_reducible refine sat_brT ?_ ?_); rfl; conv => arg 3; whnf) | ((with_reducible refine sat_brF ?_ ?_); rfl; conv => arg 3; whnf) | ((with_reducible refine sat_eqv ?_ ?_); rfl; conv => arg 3; whnf))
      repeat ((with_reducible refine sat_rng ?_ ?_); (exact wrap64 (by omega) (by omega)); (conv => arg 3; whnf); repeat (first | ((with_reducible refine sat_brT ?_ ?_); rfl; conv => arg 3; whnf) | ((with_reducible refine sat_brF ?_ ?_); rfl; conv => arg 3; whnf) | ((with_reducible refine sat_eqv ?_ ?_); rfl; conv => arg 3; whnf)))
      refine sat_idx (u8 (byt L (3 + 4 * (i + 1)))) (by omega) (by rw [z3]; exact a3) ?_
      (conv => arg 3; whnf); repeat (first | ((with_reducible refine sat_brT ?_ ?_); rfl; conv => arg 3; whnf) | ((with_reducible refine sat_brF ?_ ?_); rfl; conv => arg 3; whnf) | ((with_reducible refine sat_eqv ?_ ?_); rfl; conv => arg 3; whnf))
      repeat ((with_reducible refine sat_rng ?_ ?_); (exact wrap64 (by omega) (by omega)); (conv => arg 3; whnf); repeat (first | ((with_reducible refine sat_brT ?_ ?_); rfl; conv => arg 3; whnf) | ((with_reducible refine sat_brF ?_ ?_); rfl; conv => arg 3; whnf) | ((with_reducible refine sat_eqv ?_ ?_); rfl; conv => arg 3; whnf)))
      refine sat_idx (u8 (byt L (4 + 4 * (i + 1)))) (by omega) (by rw [z4]; exact a4) ?_
      (conv => arg 3; whnf); repeat (first | ((with_reducible refine sat_brT ?_ ?_); rfl; conv => arg 3; whnf) | ((with_reducible refine sat_brF ?_ ?_); rfl; conv => arg 3; whnf) | ((with_reducible refine sat_eqv ?_ ?_); rfl; conv => arg 3; whnf))
      repeat ((with_reducible refine sat_rng ?_ ?_); (exact wrap64 (by omega) (by omega)); (conv => arg 3; whnf); repeat (first | ((with_reducible refine sat_brT ?_ ?_); rfl; conv => arg 3; whnf) | ((with_reducible refine sat_brF ?_ ?_); rfl; conv => arg 3; whnf) | ((with_reducible refine sat_eqv ?_ ?_); rfl; conv => arg 3; whnf)))
      refine sat_asrt (by simp) ?_
      refine sat_asrt (by simp [roomy, mapsAt]; omega) ?_
      refine sat_brT (Nat.beq_refl _) ?_
      (conv => arg 3; whnf); repeat (first | ((with_reducible refine sat_brT ?_ ?_); rfl; conv => arg 3; whnf) | ((with_reducible refine sat_brF ?_ ?_); rfl; conv => arg 3; whnf) | ((with_reducible refine sat_eqv ?_ ?_); rfl; conv => arg 3; whnf))
      refine sat_rng (wrap64 (by omega) (by omega)) ?_
      exact sat_ret ⟨⟨i + 1 + 1, hi⟩, rfl, by dsimp only; rw [mapsAt_next L (i + 1)]; rfl, by show m - (i + 1 + 1) < m - (i + 1); omega⟩
    · have hi : (i + 1) = m := by have := of_decide_eq_false hi; omega
      subst hi
      (conv => arg 3; whnf); repeat (first | ((with_reducible refine sat_brT ?_ ?_); rfl; conv => arg 3; whnf) | ((with_reducible refine sat_brF ?_ ?_); rfl; conv => arg 3; whnf) | ((with_reducible refine sat_eqv ?_ ?_); rfl; conv => arg 3; whnf))
      exact sat_ret ⟨rfl, rfl, rfl⟩
  · rintro ex fr' H' ⟨rfl, rfl, rfl⟩
    cases m with
    | zero =>
      (conv => arg 3; whnf); repeat (first | ((with_reducible refine sat_brT ?_ ?_); rfl; conv => arg 3; whnf) | ((with_reducible refine sat_brF ?_ ?_); rfl; conv => arg 3; whnf) | ((with_reducible refine sat_eqv ?_ ?_); rfl; conv => arg 3; whnf))
      refine sat_loopOf mkX_ops (σ := ISt p) (fun s => [(0, .bz 1 L), (2, pt 0), (5, ti (1 + 4 * (0 : Nat))), (6, ti p), (7, pt 1), (9, ti s.i)]) (fun s => cV (mapsAt L 0) (insnAt L (1 + 4 * 0 + 2) s.i) 0 s.i) (fun s => p - s.i)
        (fun ex fr' H' => ex = .exit 2 ∧ fr' = [(2, pt 0), (7, pt 1)] ∧ H' = cV (mapsAt L 0) (insnAt L (1 + 4 * 0 + 2) p) 0 p) ⟨0, Nat.zero_le _⟩ ?_ ?_
      · rintro ⟨i, im⟩
        dsimp only
        cases i with
        | zero =>
        refine sat_br (fun hi => ?_) (fun hi => ?_)
        · have hi : 0 < p := by have := of_decide_eq_true hi; omega
          have ha : 1 + 4 * 0 + 2 + 8 * 0 + 8 ≤ L.length := by omega
          have w1 : ((1 : Int) + 4 * (0 : Nat) + 10 + 8 * (0 : Nat)).toNat = 1 + 4 * 0 + 2 + 8 * 0 + 8 := by omega
          have w2 : ((1 : Int) + 4 * (0 : Nat) + 2 + 8 * (0 : Nat)).toNat = 1 + 4 * 0 + 2 + 8 * 0 := by omega
          (conv => arg 3; whnf); repeat (first | ((with_reducible refine sat_brT ?_ ?_); rfl; conv => arg 3; whnf) | ((with_reducible refine sat_brF ?_ ?_); rfl; conv => arg 3; whnf) | ((with_reducible refine sat_eqv ?_ ?_); rfl; conv => arg 3; whnf))
          repeat ((with_reducible refine sat_rng ?_ ?_); (exact wrap64 (by omega) (by omega)); (conv => arg 3; whnf); repeat (first | ((with_reducible refine sat_brT ?_ ?_); rfl; conv => arg 3; whnf) | ((with_reducible refine sat_brF ?_ ?_); rfl; conv => arg 3; whnf) | ((with_reducible refine sat_eqv ?_ ?_); rfl; conv => arg 3; whnf)))
          refine sat_asrt (decide_eq_true (by omega)) ?_
          (conv => arg 3; whnf); repeat (first | ((with_reducible refine sat_brT ?_ ?_); rfl; conv => arg 3; whnf) | ((with_reducible refine sat_brF ?_ ?_); rfl; conv => arg 3; whnf) | ((with_reducible refine sat_eqv ?_ ?_); rfl; conv => arg 3; whnf))
          refine sat_asrt (decide_eq_true (by omega)) ?_
          (conv => arg 3; whnf); repeat (first | ((with_reducible refine sat_brT ?_ ?_); rfl; conv => arg 3; whnf) | ((with_reducible refine sat_brF ?_ ?_); rfl; conv => arg 3; whnf) | ((with_reducible refine sat_eqv ?_ ?_); rfl; conv => arg 3; whnf))
          rw [w1, w2, cut8 hL ha]
          refine sat_call (r_dec _ _ _ _ _ _ _ _ (by8 hL ha)) ?_
          rintro r H' ⟨rfl, rfl⟩
          (conv => arg 3; whnf); repeat (first | ((with_reducible refine sat_brT ?_ ?_); rfl; conv => arg 3; whnf) | ((with_reducible refine sat_brF ?_ ?_); rfl; conv => arg 3; whnf) | ((with_reducible refine sat_eqv ?_ ?_); rfl; conv => arg 3; whnf))
          refine sat_asrt (by simp [roomy]) ?_
          (conv => arg 3; whnf); repeat (first | ((with_reducible refine sat_brT ?_ ?_); rfl; conv => arg 3; whnf) | ((with_reducible refine sat_brF ?_ ?_); rfl; conv => arg 3; whnf) | ((with_reducible refine sat_eqv ?_ ?_); rfl; conv => arg 3; whnf))
          refine sat_rng (wrap64 (by omega) (by omega)) ?_
          exact sat_ret ⟨⟨1, hi⟩, rfl, rfl, by show p - 1 < p - 0; omega⟩
        · have hi : 0 = p := by have := of_decide_eq_false hi; omega
          subst hi
          (conv => arg 3; whnf); repeat (first | ((with_reducible refine sat_brT ?_ ?_); rfl; conv => arg 3; whnf) | ((with_reducible refine sat_brF ?_ ?_); rfl; conv => arg 3; whnf) | ((with_reducible refine sat_eqv ?_ ?_); rfl; conv => arg 3; whnf))
          exact sat_ret ⟨rfl, rfl, rfl⟩
        | succ i =>
        refine sat_br (fun hi => ?_) (fun hi => ?_)
        · have hi : (i + 1) < p := by have := of_decide_eq_true hi; omega
          have ha : 1 + 4 * 0 + 2 + 8 * (i + 1) + 8 ≤ L.length := by omega
          have w1 : ((1 : Int) + 4 * (0 : Nat) + 10 + 8 * ((i + 1) : Nat)).toNat = 1 + 4 * 0 + 2 + 8 * (i + 1) + 8 := by omega
          have w2 : ((1 : Int) + 4 * (0 : Nat) + 2 + 8 * ((i + 1) : Nat)).toNat = 1 + 4 * 0 + 2 + 8 * (i + 1) := by omega
          (conv => arg 3; whnf); repeat (first | ((with_reducible refine sat_brT ?_ ?_); rfl; conv => arg 3; whnf) | ((with_reducible refine sat_brF ?_ ?_); rfl; conv => arg 3; whnf) | ((with_reducible refine sat_eqv ?_ ?_); rfl; conv => arg 3; whnf))
          repeat ((with_reducible refine sat_rng ?_ ?_); (exact wrap64 (by omega) (by omega)); (conv => arg 3; whnf); repeat (first | ((with_reducible refine sat_brT ?_ ?_); rfl; conv => arg 3; whnf) | ((with_reducible refine sat_brF ?_ ?_); rfl; conv => arg 3; whnf) | ((with_reducible refine sat_eqv ?_ ?_); rfl; conv => arg 3; whnf)))
          refine sat_asrt (decide_eq_true (by omega)) ?_
          (conv => arg 3; whnf); repeat (first | ((with_reducible refine sat_brT ?_ ?_); rfl; conv => arg 3; whnf) | ((with_reducible refine sat_brF ?_ ?_); rfl; conv => arg 3; whnf) | ((with_reducible refine sat_eqv ?_ ?_); rfl; conv => arg 3; whnf))
          refine sat_asrt (decide_eq_true (by omega)) ?_
          (conv => arg 3; whnf); repeat (first | ((with_reducible refine sat_brT ?_ ?_); rfl; conv => arg 3; whnf) | ((with_reducible refine sat_brF ?_ ?_); rfl; conv => arg 3; whnf) | ((with_reducible refine sat_eqv ?_ ?_); rfl; conv => arg 3; whnf))
          rw [w1, w2, cut8 hL ha]
          refine sat_call (r_dec _ _ _ _ _ _ _ _ (by8 hL ha)) ?_
          rintro r H' ⟨rfl, rfl⟩
          (conv => arg 3; whnf); repeat (first | ((with_reducible refine sat_brT ?_ ?_); rfl; conv => arg 3; whnf) | ((with_reducible refine sat_brF ?_ ?_); rfl; conv => arg 3; whnf) | ((with_reducible refine sat_eqv ?_ ?_); rfl; conv => arg 3; whnf))
          refine sat_asrt (by simp) ?_
          refine sat_asrt (by simp [roomy, insnAt]; omega) ?_
          refine sat_brT (Nat.beq_refl _) ?_
          (conv => arg 3; whnf); repeat (first | ((with_reducible refine sat_brT ?_ ?_); rfl; conv => arg 3; whnf) | ((with_reducible refine sat_brF ?_ ?_); rfl; conv => arg 3; whnf) | ((with_reducible refine sat_eqv ?_ ?_); rfl; conv => arg 3; whnf))
          refine sat_rng (wrap64 (by omega) (by omega)) ?_
          exact sat_ret ⟨⟨i + 1 + 1, hi⟩, rfl, by dsimp only; rw [insnAt_next L _ (i + 1)]; rfl, by show p - (i + 1 + 1) < p - (i + 1); omega⟩
        · have hi : (i + 1) = p := by have := of_decide_eq_false hi; omega
          subst hi
          (conv => arg 3; whnf); repeat (first | ((with_reducible refine sat_brT ?_ ?_); rfl; conv => arg 3; whnf) | ((with_reducible refine sat_brF ?_ ?_); rfl; conv => arg 3; whnf) | ((with_reducible refine sat_eqv ?_ ?_); rfl; conv => arg 3; whnf))
          exact sat_ret ⟨rfl, rfl, rfl⟩
      · rintro ex fr' H' ⟨rfl, rfl, rfl⟩
        cases p with
        | zero =>
          (conv => arg 3; whnf); repeat (first | ((with_reducible refine sat_brT ?_ ?_); rfl; conv => arg 3; whnf) | ((with_reducible refine sat_brF ?_ ?_); rfl; conv => arg 3; whnf) | ((with_reducible refine sat_eqv ?_ ?_); rfl; conv => arg 3; whnf))
          exact sat_ret ⟨rfl, rfl⟩
        | succ p =>
          (conv => arg 3; whnf); repeat (first | ((with_reducible refine sat_brT ?_ ?_); rfl; conv => arg 3; whnf) | ((with_reducible refine sat_brF ?_ ?_); rfl; conv => arg 3; whnf) | ((with_reducible refine sat_eqv ?_ ?_); rfl; conv => arg 3; whnf))
          exact sat_ret ⟨rfl, rfl⟩
    | succ m =>
      (conv => arg 3; whnf); repeat (first | ((with_reducible refine sat_brT ?_ ?_); rfl; conv => arg 3; whnf) | ((with_reducible refine sat_brF ?_ ?_); rfl; conv => arg 3; whnf) | ((with_reducible refine sat_eqv ?_ ?_); rfl; conv => arg 3; whnf))
      refine sat_loopOf mkX_ops (σ := ISt p) (fun s => [(0, .bz 1 L), (2, pt 0), (5, ti (1 + 4 * ((m + 1) : Nat))), (6, ti p), (7, pt 1), (9, ti s.i)]) (fun s => cV (mapsAt L (m + 1)) (insnAt L (1 + 4 * (m + 1) + 2) s.i) (m + 1) s.i) (fun s => p - s.i)
        (fun ex fr' H' => ex = .exit 2 ∧ fr' = [(2, pt 0), (7, pt 1)] ∧ H' = cV (mapsAt L (m + 1)) (insnAt L (1 + 4 * (m + 1) + 2) p) (m + 1) p) ⟨0, Nat.zero_le _⟩ ?_ ?_
      · rintro ⟨i, im⟩
        dsimp only
        cases i with
        | zero =>
        refine sat_br (fun hi => ?_) (fun hi => ?_)
        · have hi : 0 < p := by have := of_decide_eq_true hi; omega
          have ha : 1 + 4 * (m + 1) + 2 + 8 * 0 + 8 ≤ L.length := by omega
          have w1 : ((1 : Int) + 4 * ((m + 1) : Nat) + 10 + 8 * (0 : Nat)).toNat = 1 + 4 * (m + 1) + 2 + 8 * 0 + 8 := by omega
          have w2 : ((1 : Int) + 4 * ((m + 1) : Nat) + 2 + 8 * (0 : Nat)).toNat = 1 + 4 * (m + 1) + 2 + 8 * 0 := by omega
          (conv => arg 3; whnf); repeat (first | ((with_reducible refine sat_brT ?_ ?_); rfl; conv => arg 3; whnf) | ((with_reducible refine sat_brF ?_ ?_); rfl; conv => arg 3; whnf) | ((with_reducible refine sat_eqv ?_ ?_); rfl; conv => arg 3; whnf))
          repeat ((with_reducible refine sat_rng ?_ ?_); (exact wrap64 (by omega) (by omega)); (conv => arg 3; whnf); repeat (first | ((with_reducible refine sat_brT ?_ ?_); rfl; conv => arg 3; whnf) | ((with_reducible refine sat_brF ?_ ?_); rfl; conv => arg 3; whnf) | ((with_reducible refine sat_eqv ?_ ?_); rfl; conv => arg 3; whnf)))
          refine sat_asrt (decide_eq_true (by omega)) ?_
          (conv => arg 3; whnf); repeat (first | ((with_reducible refine sat_brT ?_ ?_); rfl; conv => arg 3; whnf) | ((with_reducible refine sat_brF ?_ ?_); rfl; conv => arg 3; whnf) | ((with_reducible refine sat_eqv ?_ ?_); rfl; conv => arg 3; whnf))
          refine sat_asrt (decide_eq_true (by omega)) ?_
          (conv => arg 3; whnf); repeat (first | ((with_reducible refine sat_brT ?_ ?_); rfl; conv => arg 3; whnf) | ((with_reducible refine sat_brF ?_ ?_); rfl; conv => arg 3; whnf) | ((with_reducible refine sat_eqv ?_ ?_); rfl; conv => arg 3; whnf))
          rw [w1, w2, cut8 hL ha]
          refine sat_call (r_dec _ _ _ _ _ _ _ _ (by8 hL ha)) ?_
          rintro r H' ⟨rfl, rfl⟩
          (conv => arg 3; whnf); repeat (first | ((with_reducible refine sat_brT ?_ ?_); rfl; conv => arg 3; whnf) | ((with_reducible refine sat_brF ?_ ?_); rfl; conv => arg 3; whnf) | ((with_reducible refine sat_eqv ?_ ?_); rfl; conv => arg 3; whnf))
          refine sat_asrt (by simp [roomy]) ?_
          (conv => arg 3; whnf); repeat (first | ((with_reducible refine sat_brT ?_ ?_); rfl; conv => arg 3; whnf) | ((with_reducible refine sat_brF ?_ ?_); rfl; conv => arg 3; whnf) | ((with_reducible refine sat_eqv ?_ ?_); rfl; conv => arg 3; whnf))
          refine sat_rng (wrap64 (by omega) (by omega)) ?_
          exact sat_ret ⟨⟨1, hi⟩, rfl, rfl, by show p - 1 < p - 0; omega⟩
        · have hi : 0 = p := by have := of_decide_eq_false hi; omega
          subst hi
          (conv => arg 3; whnf); repeat (first | ((with_reducible refine sat_brT ?_ ?_); rfl; conv => arg 3; whnf) | ((with_reducible refine sat_brF ?_ ?_); rfl; conv => arg 3; whnf) | ((with_reducible refine sat_eqv ?_ ?_); rfl; conv => arg 3; whnf))
          exact sat_ret ⟨rfl, rfl, rfl⟩
        | succ i =>
        refine sat_br (fun hi => ?_) (fun hi => ?_)
        · have hi : (i + 1) < p := by have := of_decide_eq_true hi; omega
          have ha : 1 + 4 * (m + 1) + 2 + 8 * (i + 1) + 8 ≤ L.length := by omega
          have w1 : ((1 : Int) + 4 * ((m + 1) : Nat) + 10 + 8 * ((i + 1) : Nat)).toNat = 1 + 4 * (m + 1) + 2 + 8 * (i + 1) + 8 := by omega
          have w2 : ((1 : Int) + 4 * ((m + 1) : Nat) + 2 + 8 * ((i + 1) : Nat)).toNat = 1 + 4 * (m + 1) + 2 + 8 * (i + 1) := by omega
          (conv => arg 3; whnf); repeat (first | ((with_reducible refine sat_brT ?_ ?_); rfl; conv => arg 3; whnf) | ((with_reducible refine sat_brF ?_ ?_); rfl; conv => arg 3; whnf) | ((with_reducible refine sat_eqv ?_ ?_); rfl; conv => arg 3; whnf))
          repeat ((with_reducible refine sat_rng ?_ ?_); (exact wrap64 (by omega) (by omega)); (conv => arg 3; whnf); repeat (first | ((with_reducible refine sat_brT ?_ ?_); rfl; conv => arg 3; whnf) | ((with_reducible refine sat_brF ?_ ?_); rfl; conv => arg 3; whnf) | ((with_reducible refine sat_eqv ?_ ?_); rfl; conv => arg 3; whnf)))
          refine sat_asrt (decide_eq_true (by omega)) ?_
          (conv => arg 3; whnf); repeat (first | ((with_reducible refine sat_brT ?_ ?_); rfl; conv => arg 3; whnf) | ((with_reducible refine sat_brF ?_ ?_); rfl; conv => arg 3; whnf) | ((with_reducible refine sat_eqv ?_ ?_); rfl; conv => arg 3; whnf))
          refine sat_asrt (decide_eq_true (by omega)) ?_
          (conv => arg 3; whnf); repeat (first | ((with_reducible refine sat_brT ?_ ?_); rfl; conv => arg 3; whnf) | ((with_reducible refine sat_brF ?_ ?_); rfl; conv => arg 3; whnf) | ((with_reducible refine sat_eqv ?_ ?_); rfl; conv => arg 3; whnf))
          rw [w1, w2, cut8 hL ha]
          refine sat_call (r_dec _ _ _ _ _ _ _ _ (by8 hL ha)) ?_
          rintro r H' ⟨rfl, rfl⟩
          (conv => arg 3; whnf); repeat (first | ((with_reducible refine sat_brT ?_ ?_); rfl; conv => arg 3; whnf) | ((with_reducible refine sat_brF ?_ ?_); rfl; conv => arg 3; whnf) | ((with_reducible refine sat_eqv ?_ ?_); rfl; conv => arg 3; whnf))
          refine sat_asrt (by simp) ?_
          refine sat_asrt (by simp [roomy, insnAt]; omega) ?_
          refine sat_brT (Nat.beq_refl _) ?_
          (conv => arg 3; whnf); repeat (first | ((with_reducible refine sat_brT ?_ ?_); rfl; conv => arg 3; whnf) | ((with_reducible refine sat_brF ?_ ?_); rfl; conv => arg 3; whnf) | ((with_reducible refine sat_eqv ?_ ?_); rfl; conv => arg 3; whnf))
          refine sat_rng (wrap64 (by omega) (by omega)) ?_
          exact sat_ret ⟨⟨i + 1 + 1, hi⟩, rfl, by dsimp only; rw [insnAt_next L _ (i + 1)]; rfl, by show p - (i + 1 + 1) < p - (i + 1); omega⟩
        · have hi : (i + 1) = p := by have := of_decide_eq_false hi; omega
          subst hi
          (conv => arg 3; whnf); repeat (first | ((with_reducible refine sat_brT ?_ ?_); rfl; conv => arg 3; whnf) | ((with_reducible refine sat_brF ?_ ?_); rfl; conv => arg 3; whnf) | ((with_reducible refine sat_eqv ?_ ?_); rfl; conv => arg 3; whnf))
          exact sat_ret ⟨rfl, rfl, rfl⟩
      · rintro ex fr' H' ⟨rfl, rfl, rfl⟩
        cases p with
        | zero =>
          (conv => arg 3; whnf); repeat (first | ((with_reducible refine sat_brT ?_ ?_); rfl; conv => arg 3; whnf) | ((with_reducible refine sat_brF ?_ ?_); rfl; conv => arg 3; whnf) | ((with_reducible refine sat_eqv ?_ ?_); rfl; conv => arg 3; whnf))
          exact sat_ret ⟨rfl, rfl⟩
        | succ p =>
          (conv => arg 3; whnf); repeat (first | ((with_reducible refine sat_brT ?_ ?_); rfl; conv => arg 3; whnf) | ((with_reducible refine sat_brF ?_ ?_); rfl; conv => arg 3; whnf) | ((with_reducible refine sat_eqv ?_ ?_); rfl; conv => arg 3; whnf))
          exact sat_ret ⟨rfl, rfl⟩
end Stk
