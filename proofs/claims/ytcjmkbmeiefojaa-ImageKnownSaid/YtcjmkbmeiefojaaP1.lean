/- Bytes of images: there and back, in plain Lean. -/
import Derived.Test.YtcjmkbmeiefojaaR1
namespace Stk
open Go
set_option maxRecDepth 100000
set_option linter.unusedSimpArgs false
set_option linter.unusedVariables false
set_option maxHeartbeats 4000000
theorem byt_of {L : List Tr} {i : Nat} {k : IntKind} {v : Int} (h : L[i]? = some (.int k v)) : byt L i = v := by unfold byt; rw [h]
theorem decB_size {L : List Tr} {m p : Nat} (hm : 1 ≤ L.length → byt L 0 = m) (hp : 1 + 4 * m + 2 ≤ L.length → byt L (1 + 4 * m) + 256 * byt L (1 + 4 * m + 1) = p) (h4 : m ≤ 4) (h5 : p ≤ 512) (hl : L.length ≤ 65536) :
    decB L = if L.length < 3 + 4 * m + 8 * p then (im0, 4) else if L.length > 3 + 4 * m + 8 * p then (im0, 5) else (⟨true, mapsAt L m, true, insnAt L (1 + 4 * m + 2) p⟩, 0) := by
  unfold decB
  rw [if_neg (by omega)]
  by_cases c1 : L.length < 1
  · rw [if_pos c1, if_pos (by omega)]
  rw [if_neg c1, hm (by omega), Int.toNat_natCast, if_neg (by omega)]
  by_cases c2 : L.length < 1 + 4 * m + 2
  · rw [if_pos c2, if_pos (by omega)]
  rw [if_neg c2, hp (by omega), Int.toNat_natCast, if_neg (by omega)]
  by_cases c3 : L.length < 1 + 4 * m + 2 + 8 * p
  · rw [if_pos c3, if_pos (by omega)]
  rw [if_neg c3, if_neg (show ¬ L.length < 3 + 4 * m + 8 * p by omega)]
  by_cases c4 : L.length > 1 + 4 * m + 2 + 8 * p
  · rw [if_pos c4, if_pos (show L.length > 3 + 4 * m + 8 * p by omega)]
  · rw [if_neg c4, if_neg (show ¬ L.length > 3 + 4 * m + 8 * p by omega)]
theorem decB_bad {L : List Tr} (h : (decB L).2 ≠ 0) : (decB L).1 = im0 := by
  revert h
  unfold decB
  repeat' split
  all_goals first | (intro _; rfl) | (intro h; exact absurd rfl h)
structure DecOk (L : List Tr) (m p : Nat) : Prop where
  l : L.length = 3 + 4 * m + 8 * p
  m4 : m ≤ 4
  p5 : p ≤ 512
  hm : byt L 0 = m
  hp : byt L (1 + 4 * m) + 256 * byt L (1 + 4 * m + 1) = p
  e : decB L = (⟨true, mapsAt L m, true, insnAt L (1 + 4 * m + 2) p⟩, 0)
theorem decB_good {L : List Tr} (hL : AllB L) (h : (decB L).2 = 0) : ∃ m p, DecOk L m p := by
  have hd : ¬ L.length > 65536 := fun hh => by
    have : (decB L).2 = 3 := by unfold decB; rw [if_pos hh]
    omega
  have c1 : ¬ L.length < 1 := fun hh => by
    have : (decB L).2 = 4 := by unfold decB; rw [if_neg hd, if_pos hh]
    omega
  have r0 := (hL.get (show 0 < L.length by omega)).2
  obtain ⟨m, hm⟩ : ∃ m : Nat, byt L 0 = m := ⟨(byt L 0).toNat, by omega⟩
  have c2 : ¬ (m : Int) > 4 := fun hh => by
    have : (decB L).2 = 5 := by unfold decB; rw [hm, if_neg hd, if_neg c1, if_pos hh]
    omega
  have c3 : ¬ L.length < 1 + 4 * m + 2 := fun hh => by
    have : (decB L).2 = 4 := by unfold decB; rw [hm, Int.toNat_natCast, if_neg hd, if_neg c1, if_neg c2, if_pos hh]
    omega
  have r1 := (hL.get (show 1 + 4 * m < L.length by omega)).2
  have r2 := (hL.get (show 1 + 4 * m + 1 < L.length by omega)).2
  obtain ⟨p, hp⟩ : ∃ p : Nat, byt L (1 + 4 * m) + 256 * byt L (1 + 4 * m + 1) = p := ⟨(byt L (1 + 4 * m) + 256 * byt L (1 + 4 * m + 1)).toNat, by omega⟩
  have c4 : ¬ (p : Int) > 512 := fun hh => by
    have : (decB L).2 = 5 := by unfold decB; rw [hm, Int.toNat_natCast, hp, if_neg hd, if_neg c1, if_neg c2, if_neg c3, if_pos hh]
    omega
  have e := decB_size (fun _ => hm) (fun _ => hp) (by omega) (by omega) (show L.length ≤ 65536 by omega)
  rw [e] at h
  by_cases d1 : L.length < 3 + 4 * m + 8 * p
  · rw [if_pos d1] at h; exact absurd h (by decide)
  by_cases d2 : L.length > 3 + 4 * m + 8 * p
  · rw [if_neg d1, if_pos d2] at h; exact absurd h (by decide)
  rw [if_neg d1, if_neg d2] at e
  exact ⟨m, p, by omega, by omega, by omega, hm, hp, e⟩
theorem take_next {L : List Tr} (h : AllB L) {n : Nat} (hn : n < L.length) : L.take (n + 1) = L.take n ++ [u8 (byt L n)] := by
  rw [List.take_add_one, (h.get hn).1]; rfl
theorem eb_dec8 {b0 b1 b2 b3 b4 b5 b6 b7 : Int} (h : By8 b0 b1 b2 b3 b4 b5 b6 b7) : ib (dec8 b0 b1 b2 b3 b4 b5 b6 b7) = l8 b0 b1 b2 b3 b4 b5 b6 b7 := by
  obtain ⟨h0, h1, h2, h3, h4, h5, h6, h7⟩ := h
  have e1 : b1 % 16 + 16 * (b1 / 16) = b1 := by omega
  have e2 : sg 32768 (b2 + b3 * 256) % 256 = b2 := by unfold sg; split <;> omega
  have e3 : sg 32768 (b2 + b3 * 256) / 256 % 256 = b3 := by unfold sg; split <;> omega
  have e4 : sg 2147483648 (b4 + b5 * 256 + b6 * 65536 + b7 * 16777216) % 256 = b4 := by unfold sg; split <;> omega
  have e5 : sg 2147483648 (b4 + b5 * 256 + b6 * 65536 + b7 * 16777216) / 256 % 256 = b5 := by unfold sg; split <;> omega
  have e6 : sg 2147483648 (b4 + b5 * 256 + b6 * 65536 + b7 * 16777216) / 65536 % 256 = b6 := by unfold sg; split <;> omega
  have e7 : sg 2147483648 (b4 + b5 * 256 + b6 * 65536 + b7 * 16777216) / 16777216 % 256 = b7 := by unfold sg; split <;> omega
  show eb _ _ _ _ _ = _
  unfold eb l8
  rw [e1, e2, e3, e4, e5, e6, e7]
theorem dec8_eb {o d s f m : Int} (h : InsOK o d s f m) (hd : d ≤ 15) (hs : s ≤ 15) :
    dec8 o (d + 16 * s) (f % 256) (f / 256 % 256) (m % 256) (m / 256 % 256) (m / 65536 % 256) (m / 16777216 % 256) = insT o d s f m := by
  obtain ⟨h0, h1, h2, h3, h4⟩ := h
  have e1 : (d + 16 * s) % 16 = d := by omega
  have e2 : (d + 16 * s) / 16 = s := by omega
  have e3 : sg 32768 (f % 256 + f / 256 % 256 * 256) = f := by unfold sg; split <;> omega
  have e4 : sg 2147483648 (m % 256 + m / 256 % 256 * 256 + m / 65536 % 256 * 65536 + m / 16777216 % 256 * 16777216) = m := by unfold sg; split <;> omega
  unfold dec8
  rw [e1, e2, e3, e4]
theorem dec_enc {L : List Tr} (hL : AllB L) {m p : Nat} (h : DecOk L m p) : (decB L).1.enc = (L, 0) := by
  obtain ⟨hl, m4, p5, hm, hp, e⟩ := h
  rw [e]
  show Im.enc ⟨true, mapsAt L m, true, insnAt L (1 + 4 * m + 2) p⟩ = _
  generalize hx : (⟨true, mapsAt L m, true, insnAt L (1 + 4 * m + 2) p⟩ : Im) = x
  have xA : x.A = mapsAt L m := by rw [← hx]
  have xB : x.B = insnAt L (1 + 4 * m + 2) p := by rw [← hx]
  have lA : x.A.length = m := by rw [xA, mapsAt_len]
  have lB : x.B.length = p := by rw [xB, insnAt_len]
  have gA : ∀ i, i < m → x.A[i]? = some (mapAt L i) := fun i hi => by
    rw [xA]; unfold mapsAt; rw [List.getElem?_map, List.getElem?_range hi]; rfl
  have gB : ∀ i, i < p → x.B[i]? = some (insAt L (1 + 4 * m + 2 + 8 * i)) := fun i hi => by
    rw [xB]; unfold insnAt; rw [List.getElem?_map, List.getElem?_range hi]; rfl
  have b0 := (hL.get (show 0 < L.length by omega)).1
  have kp : ∀ i, i ≤ m → x.pre i = L.take (1 + 4 * i) := by
    intro i
    induction i with
    | zero =>
      intro _
      show u8 x.A.length :: (x.A.take 0).flatMap mb = L.take (0 + 1)
      rw [take_next hL (by omega), lA, hm]
      rfl
    | succ i ih =>
      intro hi
      rw [pre_next (gA i (by omega)), ih (by omega)]
      rw [show 1 + 4 * (i + 1) = (((1 + 4 * i) + 1) + 1) + 1 + 1 from by omega, take_next hL (by omega), take_next hL (by omega), take_next hL (by omega), take_next hL (by omega)]
      show _ ++ [u8 (byt L (1 + 4 * i)), u8 (byt L (2 + 4 * i)), u8 (byt L (3 + 4 * i)), u8 (byt L (4 + 4 * i))] = _
      rw [show 2 + 4 * i = 1 + 4 * i + 1 from by omega, show 3 + 4 * i = 1 + 4 * i + 1 + 1 from by omega, show 4 + 4 * i = 1 + 4 * i + 1 + 1 + 1 from by omega]
      simp only [List.append_assoc, List.cons_append, List.nil_append]
  have r1 := (hL.get (show 1 + 4 * m < L.length by omega)).2
  have r2 := (hL.get (show 1 + 4 * m + 1 < L.length by omega)).2
  have kh : x.hd = L.take (1 + 4 * m + 2) := by
    unfold Im.hd
    rw [lA, kp m (Nat.le_refl _), lB]
    rw [show 1 + 4 * m + 2 = (1 + 4 * m + 1) + 1 from by omega, take_next hL (by omega), take_next hL (by omega)]
    rw [show ((p % 256 : Nat) : Int) = byt L (1 + 4 * m) by omega, show ((p / 256 : Nat) : Int) = byt L (1 + 4 * m + 1) by omega]
    simp only [List.append_assoc, List.cons_append, List.nil_append]
  have ka : ∀ i, i ≤ p → x.all i = L.take (1 + 4 * m + 2 + 8 * i) := by
    intro i
    induction i with
    | zero =>
      intro _
      show x.hd ++ (x.B.take 0).flatMap ib = _
      rw [kh]
      simp
    | succ i ih =>
      intro hi
      have ha : 1 + 4 * m + 2 + 8 * i + 8 ≤ L.length := by omega
      rw [all_next (gB i (by omega)), ih (by omega)]
      have := eb_dec8 (by8 hL ha)
      show _ ++ ib (dec8 _ _ _ _ _ _ _ _) = _
      rw [this]
      rw [show 1 + 4 * m + 2 + 8 * (i + 1) = 1 + 4 * m + 2 + 8 * i + 8 from by omega]
      rw [← cut8 hL ha]
      have tt := List.take_append_drop (1 + 4 * m + 2 + 8 * i) (List.take (1 + 4 * m + 2 + 8 * i + 8) L)
      rw [List.take_take, Nat.min_eq_left (by omega)] at tt
      exact tt
  have fA : x.A.all mfit = true := by
    rw [List.all_eq_true]
    intro y hy
    obtain ⟨i, hi, rfl⟩ := List.mem_iff_getElem.1 hy
    have := gA i (by omega)
    rw [List.getElem?_eq_getElem hi] at this
    have e' := Option.some.inj this
    have h1 := (hL.get (show 1 + 4 * i < L.length by omega)).2
    have h2 := (hL.get (show 2 + 4 * i < L.length by omega)).2
    have h3 := (hL.get (show 3 + 4 * i < L.length by omega)).2
    have h4 := (hL.get (show 4 + 4 * i < L.length by omega)).2
    rw [e']
    show (fit _ && (fit _ && (fit _ && fit _))) = true
    unfold fit
    simp [h1, h2, h3, h4]
  have fB : x.B.all ifit = true := by
    rw [List.all_eq_true]
    intro y hy
    obtain ⟨i, hi, rfl⟩ := List.mem_iff_getElem.1 hy
    have := gB i (by omega)
    rw [List.getElem?_eq_getElem hi] at this
    have e' := Option.some.inj this
    rw [e']
    have ha : 1 + 4 * m + 2 + 8 * i + 8 ≤ L.length := by omega
    obtain ⟨o, d, s, f, mm, e, _, hd, hs⟩ := dec8_ok (by8 hL ha)
    unfold insAt
    rw [e]
    exact decide_eq_true ⟨hd, hs⟩
  unfold Im.enc
  rw [if_neg (by omega), if_neg (by rw [fA]; decide), if_neg (by rw [fB]; decide), lB, ka p (Nat.le_refl _), List.take_of_length_le (by omega)]
end Stk
