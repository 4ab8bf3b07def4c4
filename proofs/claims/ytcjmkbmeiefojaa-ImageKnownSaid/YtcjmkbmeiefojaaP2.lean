/- Images as bytes and back, in plain Lean. -/
import Derived.Test.YtcjmkbmeiefojaaP1
namespace Stk
open Go
set_option maxRecDepth 100000
set_option linter.unusedSimpArgs false
set_option linter.unusedVariables false
set_option maxHeartbeats 4000000
theorem flat_get {c : Nat} {f : Tr → List Tr} : ∀ {A : List Tr}, (∀ y ∈ A, (f y).length = c) → ∀ {i : Nat} {y : Tr}, A[i]? = some y → ∀ {k : Nat}, k < c → (A.flatMap f)[c * i + k]? = (f y)[k]?
  | [], _, i, y, hy, k, hk => by simp at hy
  | z :: A, h, 0, y, hy, k, hk => by
    have hz : z = y := by simpa using hy
    subst hz
    rw [List.flatMap_cons, Nat.mul_zero, Nat.zero_add, List.getElem?_append_left (by rw [h z (by simp)]; exact hk)]
  | z :: A, h, i + 1, y, hy, k, hk => by
    rw [List.flatMap_cons, List.getElem?_append_right (by rw [h z (by simp)]; rw [Nat.mul_succ]; omega), h z (by simp), show c * (i + 1) + k - c = c * i + k by rw [Nat.mul_succ]; omega]
    exact flat_get (fun y hy => h y (by simp [hy])) (by simpa using hy) hk
theorem flat_len {c : Nat} {f : Tr → List Tr} : ∀ {A : List Tr}, (∀ y ∈ A, (f y).length = c) → (A.flatMap f).length = c * A.length
  | [], _ => rfl
  | z :: A, h => by
    rw [List.flatMap_cons, List.length_append, h z (by simp), flat_len (fun y hy => h y (by simp [hy])), List.length_cons, Nat.mul_succ]; omega
structure EncOk (x : Im) : Prop where
  m4 : x.A.length ≤ 4
  p5 : x.B.length ≤ 512
  a : ∀ y ∈ x.A, ∃ a b c d, y = mapT a b c d ∧ (0 ≤ a ∧ a ≤ 255) ∧ (0 ≤ b ∧ b ≤ 255) ∧ (0 ≤ c ∧ c ≤ 255) ∧ (0 ≤ d ∧ d ≤ 255)
  b : ∀ y ∈ x.B, ∃ o d s f m, y = insT o d s f m ∧ InsOK o d s f m ∧ d ≤ 15 ∧ s ≤ 15
  e : x.enc.1 = u8 x.A.length :: (x.A.flatMap mb ++ (u8 (x.B.length % 256 : Nat) :: u8 (x.B.length / 256 : Nat) :: x.B.flatMap ib))
theorem enc_good {x : Im} (hx : x.OK) (h : x.enc.2 = 0) : EncOk x := by
  by_cases c1 : x.A.length > 4 ∨ x.B.length > 512
  · unfold Im.enc at h; rw [if_pos c1] at h; exact absurd h (by decide)
  by_cases c2 : x.A.all mfit = false
  · unfold Im.enc at h; rw [if_neg c1, if_pos c2] at h; exact absurd h (by decide)
  by_cases c3 : x.B.all ifit = false
  · unfold Im.enc at h; rw [if_neg c1, if_neg c2, if_pos c3] at h; exact absurd h (by decide)
  refine ⟨by omega, by omega, ?_, ?_, ?_⟩
  · intro y hy
    obtain ⟨a, b, c, d, rfl, _⟩ := hx.a y hy
    have c2' : x.A.all mfit = true := by simpa using c2
    have := List.all_eq_true.1 c2' _ hy
    have : (fit a && (fit b && (fit c && fit d))) = true := this
    rw [Bool.and_eq_true, Bool.and_eq_true, Bool.and_eq_true] at this
    exact ⟨a, b, c, d, rfl, fit_iff this.1, fit_iff this.2.1, fit_iff this.2.2.1, fit_iff this.2.2.2⟩
  · intro y hy
    obtain ⟨o, d, s, f, m, rfl, hi⟩ := hx.b y hy
    have c3' : x.B.all ifit = true := by simpa using c3
    have := List.all_eq_true.1 c3' _ hy
    have : decide (d ≤ 15 ∧ s ≤ 15) = true := this
    have := of_decide_eq_true this
    exact ⟨o, d, s, f, m, rfl, hi, this.1, this.2⟩
  · unfold Im.enc
    rw [if_neg c1, if_neg c2, if_neg c3]
    show x.all _ = _
    unfold Im.all Im.hd Im.pre
    rw [List.take_length, List.take_length]
    simp
theorem enc_bad {x : Im} (h : x.enc.2 ≠ 0) : x.enc.1 = [] := by
  revert h
  unfold Im.enc
  repeat' split
  all_goals first | (intro _; rfl) | (intro h; exact absurd rfl h)
structure EncAt (x : Im) (E : List Tr) : Prop where
  l : E.length = 3 + 4 * x.A.length + 8 * x.B.length
  b : AllB E
  h0 : byt E 0 = x.A.length
  h1 : byt E (1 + 4 * x.A.length) + 256 * byt E (1 + 4 * x.A.length + 1) = x.B.length
  a : mapsAt E x.A.length = x.A
  c : insnAt E (1 + 4 * x.A.length + 2) x.B.length = x.B
theorem enc_at {x : Im} (h : EncOk x) : EncAt x x.enc.1 := by
  obtain ⟨m4, p5, ha, hb, he⟩ := h
  generalize x.enc.1 = E at he
  have la : ∀ y ∈ x.A, (mb y).length = 4 := fun y hy => by obtain ⟨_, _, _, _, rfl, _⟩ := ha y hy; rfl
  have lb : ∀ y ∈ x.B, (ib y).length = 8 := fun y hy => by obtain ⟨_, _, _, _, _, rfl, _⟩ := hb y hy; rfl
  have fa := flat_len la
  have fb := flat_len lb
  have gl : E.length = 3 + 4 * x.A.length + 8 * x.B.length := by rw [he]; simp only [List.length_cons, List.length_append, fa, fb]; omega
  have ga : ∀ {i : Nat} {y : Tr}, x.A[i]? = some y → ∀ {k : Nat}, k < 4 → E[1 + 4 * i + k]? = (mb y)[k]? := by
    intro i y hy k hk
    obtain ⟨hi, _⟩ := List.getElem?_eq_some_iff.1 hy
    rw [he, show 1 + 4 * i + k = (4 * i + k) + 1 from by omega, List.getElem?_cons_succ, List.getElem?_append_left (by rw [fa]; omega)]
    exact flat_get la hy hk
  have gb : ∀ {i : Nat} {y : Tr}, x.B[i]? = some y → ∀ {k : Nat}, k < 8 → E[1 + 4 * x.A.length + 2 + 8 * i + k]? = (ib y)[k]? := by
    intro i y hy k hk
    rw [he, show 1 + 4 * x.A.length + 2 + 8 * i + k = (4 * x.A.length + 2 + 8 * i + k) + 1 from by omega, List.getElem?_cons_succ, List.getElem?_append_right (by rw [fa]; omega), fa,
      show 4 * x.A.length + 2 + 8 * i + k - 4 * x.A.length = (8 * i + k) + 1 + 1 from by omega, List.getElem?_cons_succ, List.getElem?_cons_succ]
    exact flat_get lb hy hk
  have gh : ∀ {k : Nat}, E[1 + 4 * x.A.length + k]? = (u8 (x.B.length % 256 : Nat) :: u8 (x.B.length / 256 : Nat) :: x.B.flatMap ib)[k]? := by
    intro k
    rw [he, show 1 + 4 * x.A.length + k = (4 * x.A.length + k) + 1 from by omega, List.getElem?_cons_succ, List.getElem?_append_right (by rw [fa]; omega), fa, show 4 * x.A.length + k - 4 * x.A.length = k from by omega]
  refine ⟨gl, ?_, ?_, ?_, ?_, ?_⟩
  · rw [he]
    intro y hy
    rcases List.mem_cons.1 hy with rfl | hy
    · exact ⟨_, rfl, by omega, by omega⟩
    rcases List.mem_append.1 hy with hy | hy
    · obtain ⟨z, hz, hy⟩ := List.mem_flatMap.1 hy
      obtain ⟨a, b, c, d, rfl, h1, h2, h3, h4⟩ := ha z hz
      have hy : y ∈ [u8 a, u8 b, u8 c, u8 d] := hy
      simp at hy
      rcases hy with rfl | rfl | rfl | rfl
      · exact ⟨_, rfl, h1⟩
      · exact ⟨_, rfl, h2⟩
      · exact ⟨_, rfl, h3⟩
      · exact ⟨_, rfl, h4⟩
    rcases List.mem_cons.1 hy with rfl | hy
    · exact ⟨_, rfl, by omega, by omega⟩
    rcases List.mem_cons.1 hy with rfl | hy
    · exact ⟨_, rfl, by omega, by omega⟩
    · obtain ⟨z, hz, hy⟩ := List.mem_flatMap.1 hy
      obtain ⟨o, d, s, f, m, rfl, ⟨h1, h2, h3, h4, h5⟩, h6, h7⟩ := hb z hz
      have hy : y ∈ eb o d s f m := hy
      simp [eb] at hy
      rcases hy with rfl | rfl | rfl | rfl | rfl | rfl | rfl | rfl
      · exact ⟨_, rfl, h1⟩
      all_goals exact ⟨_, rfl, by omega, by omega⟩
  · exact byt_of (k := .u8) (by rw [he]; rfl)
  · have e1 : byt E (1 + 4 * x.A.length) = (x.B.length % 256 : Nat) := byt_of (k := .u8) (gh (k := 0))
    have e2 : byt E (1 + 4 * x.A.length + 1) = (x.B.length / 256 : Nat) := byt_of (k := .u8) (gh (k := 1))
    rw [e1, e2]; omega
  · apply List.ext_getElem?
    intro i
    by_cases hi : i < x.A.length
    · have hy := List.getElem?_eq_getElem hi
      obtain ⟨a, b, c, d, e, _⟩ := ha _ (List.getElem_mem hi)
      rw [hy]
      unfold mapsAt
      rw [List.getElem?_map, List.getElem?_range hi]
      rw [e] at hy ⊢
      have e1 : byt E (1 + 4 * i) = a := byt_of (k := .u8) (ga hy (k := 0) (by omega))
      have e2 : byt E (2 + 4 * i) = b := by rw [show 2 + 4 * i = 1 + 4 * i + 1 from by omega]; exact byt_of (k := .u8) (ga hy (k := 1) (by omega))
      have e3 : byt E (3 + 4 * i) = c := by rw [show 3 + 4 * i = 1 + 4 * i + 2 from by omega]; exact byt_of (k := .u8) (ga hy (k := 2) (by omega))
      have e4 : byt E (4 + 4 * i) = d := by rw [show 4 + 4 * i = 1 + 4 * i + 3 from by omega]; exact byt_of (k := .u8) (ga hy (k := 3) (by omega))
      show some (mapT _ _ _ _) = _
      rw [e1, e2, e3, e4]
    · rw [List.getElem?_eq_none (by rw [mapsAt_len]; omega), List.getElem?_eq_none (by omega)]
  · apply List.ext_getElem?
    intro i
    by_cases hi : i < x.B.length
    · have hy := List.getElem?_eq_getElem hi
      obtain ⟨o, d, s, f, m, e, ok, hd, hs⟩ := hb _ (List.getElem_mem hi)
      rw [hy]
      unfold insnAt
      rw [List.getElem?_map, List.getElem?_range hi]
      rw [e] at hy ⊢
      have e0 : byt E (1 + 4 * x.A.length + 2 + 8 * i) = o := byt_of (k := .u8) (gb hy (k := 0) (by omega))
      have e1 : byt E (1 + 4 * x.A.length + 2 + 8 * i + 1) = d + 16 * s := byt_of (k := .u8) (gb hy (k := 1) (by omega))
      have e2 : byt E (1 + 4 * x.A.length + 2 + 8 * i + 2) = f % 256 := byt_of (k := .u8) (gb hy (k := 2) (by omega))
      have e3 : byt E (1 + 4 * x.A.length + 2 + 8 * i + 3) = f / 256 % 256 := byt_of (k := .u8) (gb hy (k := 3) (by omega))
      have e4 : byt E (1 + 4 * x.A.length + 2 + 8 * i + 4) = m % 256 := byt_of (k := .u8) (gb hy (k := 4) (by omega))
      have e5 : byt E (1 + 4 * x.A.length + 2 + 8 * i + 5) = m / 256 % 256 := byt_of (k := .u8) (gb hy (k := 5) (by omega))
      have e6 : byt E (1 + 4 * x.A.length + 2 + 8 * i + 6) = m / 65536 % 256 := byt_of (k := .u8) (gb hy (k := 6) (by omega))
      have e7 : byt E (1 + 4 * x.A.length + 2 + 8 * i + 7) = m / 16777216 % 256 := byt_of (k := .u8) (gb hy (k := 7) (by omega))
      show some (dec8 _ _ _ _ _ _ _ _) = _
      rw [e0, e1, e2, e3, e4, e5, e6, e7, dec8_eb ok hd hs]
    · rw [List.getElem?_eq_none (by rw [insnAt_len]; omega), List.getElem?_eq_none (by omega)]
theorem byt_eq {L M : List Tr} {i : Nat} (h : L[i]? = M[i]?) : byt L i = byt M i := by unfold byt; rw [h]
theorem dec_like {x : Im} (hx : EncOk x) {L : List Tr} (h : ∀ i, i < L.length → i < x.enc.1.length → L[i]? = x.enc.1[i]?) (hl : L.length ≤ 65536) :
    decB L = if L.length < x.enc.1.length then (im0, 4) else if L.length > x.enc.1.length then (im0, 5) else (⟨true, mapsAt L x.A.length, true, insnAt L (1 + 4 * x.A.length + 2) x.B.length⟩, 0) := by
  obtain ⟨l, b, h0, h1, _, _⟩ := enc_at hx
  have := hx.m4
  have := hx.p5
  rw [l]
  refine decB_size ?_ ?_ hx.m4 hx.p5 hl
  · intro _; rw [byt_eq (h 0 (by omega) (by omega)), h0]
  · intro _; rw [byt_eq (h (1 + 4 * x.A.length) (by omega) (by omega)), byt_eq (h (1 + 4 * x.A.length + 1) (by omega) (by omega)), h1]
theorem enc_dec {x : Im} (hx : EncOk x) : decB x.enc.1 = (⟨true, x.A, true, x.B⟩, 0) := by
  have k := enc_at hx
  have := hx.m4
  have := hx.p5
  rw [dec_like hx (fun _ _ _ => rfl) (by have := k.l; omega), if_neg (by omega), if_neg (by omega), k.a, k.c]
end Stk
