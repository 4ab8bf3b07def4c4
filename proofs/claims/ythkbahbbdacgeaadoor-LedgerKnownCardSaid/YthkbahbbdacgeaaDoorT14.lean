/- What the document's Sum computes: plain Lean. -/
import Derived.Test.YthkbahbbdacgeaaDoorT13
namespace Stk
open Go
set_option maxRecDepth 100000
set_option linter.unusedSimpArgs false
set_option linter.unusedVariables false
set_option maxHeartbeats 8000000
theorem r_adds : ACalls PP GG F.ref17_adds [] [] fun r H' => r = .t (.arr 64 KL) ∧ H' = [] := by
  refine K.ref17_adds.callsC rfl ?_
  (conv => arg 3; whnf); repeat ((first | (with_reducible apply sT); rfl | (with_reducible apply sF); rfl | (with_reducible apply sE); rfl); conv => arg 3; whnf)
  exact sat_ret ⟨rfl, rfl⟩
/-- A word that is gathered byte by byte. -/
def acc (bs : List Tr) (t : Nat) : Nat → Int
  | 0 => 0
  | i + 1 => 256 * acc bs t i + gw bs (4 * t + i)
theorem acc_b {bs : List Tr} (h : AllB bs) (hl : bs.length = 64) {t : Nat} (ht : t < 16) : 0 ≤ acc bs t 0 ∧ acc bs t 0 ≤ 0 ∧ 0 ≤ acc bs t 1 ∧ acc bs t 1 ≤ 255 ∧ 0 ≤ acc bs t 2 ∧ acc bs t 2 ≤ 65535 ∧ 0 ≤ acc bs t 3 ∧ acc bs t 3 ≤ 16777215 := by
  have h0 := (h.get (show 4 * t + 0 < bs.length by omega)).2
  have h1 := (h.get (show 4 * t + 1 < bs.length by omega)).2
  have h2 := (h.get (show 4 * t + 2 < bs.length by omega)).2
  have e0 : acc bs t 0 = 0 := rfl
  have e1 : acc bs t 1 = 256 * acc bs t 0 + gw bs (4 * t + 0) := rfl
  have e2 : acc bs t 2 = 256 * acc bs t 1 + gw bs (4 * t + 1) := rfl
  have e3 : acc bs t 3 = 256 * acc bs t 2 + gw bs (4 * t + 2) := rfl
  omega
theorem acc_le {bs : List Tr} (h : AllB bs) (hl : bs.length = 64) {t : Nat} (ht : t < 16) {i : Nat} (hi : i < 4) : 0 ≤ acc bs t i ∧ acc bs t i ≤ 16777215 := by
  have := acc_b h hl ht
  have hq : i = 0 ∨ i = 1 ∨ i = 2 ∨ i = 3 := by omega
  rcases hq with rfl | rfl | rfl | rfl <;> omega
theorem acc_be (bs : List Tr) (t : Nat) : acc bs t 4 = be bs t := by
  have e1 : acc bs t 1 = 256 * 0 + gw bs (4 * t + 0) := rfl
  have e2 : acc bs t 2 = 256 * acc bs t 1 + gw bs (4 * t + 1) := rfl
  have e3 : acc bs t 3 = 256 * acc bs t 2 + gw bs (4 * t + 2) := rfl
  have e4 : acc bs t 4 = 256 * acc bs t 3 + gw bs (4 * t + 3) := rfl
  unfold be
  rw [Nat.add_zero] at e1
  omega
theorem rs_len (bs : List Tr) (H : H8) : ∀ t, (rs bs H t).1.length = 64
  | 0 => by show (List.replicate _ _).length = 64; rw [List.length_replicate]
  | t + 1 => by show (List.set _ _ _).length = 64; rw [List.length_set]; exact rs_len bs H t
/-- Words ahead of their turn are nought. -/
theorem rs_zero (bs : List Tr) (H : H8) : ∀ (t i : Nat), t ≤ i → i < 64 → (rs bs H t).1[i]? = some (w32 0)
  | 0, i, _, hi => by show (List.replicate 64 (w32 0))[i]? = _; rw [List.getElem?_replicate, if_pos hi]
  | t + 1, i, h, hi => by
    show (List.set _ _ _)[i]? = _
    rw [List.getElem?_set_ne (by omega)]
    exact rs_zero bs H t i (by omega) hi
/-- Words stay behind their turn. -/
theorem rs_stay (bs : List Tr) (H : H8) : ∀ (n t : Nat), t < n → n ≤ 64 → (rs bs H n).1[t]? = some (w32 (wd bs (rs bs H t).1 t))
  | 0, t, h, _ => by omega
  | n + 1, t, h, hn => by
    show (List.set _ _ _)[t]? = _
    by_cases ht : t = n
    · subst ht
      rw [List.getElem?_set_self (by rw [rs_len]; omega)]
    · rw [List.getElem?_set_ne (by omega)]
      exact rs_stay bs H n t (by omega) (by omega)
def sw (x : Int) : Nat → Int
  | 0 => x
  | c + 1 => (sw x c).tdiv 256
def bw (x : Int) (c : Nat) : Tr := u8 (IntKind.wrap .u8 ((sw x c).tmod 256))
theorem sw_w {x : Int} (h : W32 x) : ∀ c, W32 (sw x c)
  | 0 => h
  | c + 1 => by
    have := sw_w h c
    show W32 ((sw x c).tdiv 256)
    rw [Int.tdiv_eq_ediv_of_nonneg this.1]
    constructor <;> omega
def w4r (x : Int) : List Tr := [bw x 3, bw x 2, bw x 1, bw x 0]
theorem w4r_eq {x : Int} (h : W32 x) : w4r x = w4 x := by
  have e1 : sw x 1 = x / 256 := by show x.tdiv 256 = _; rw [Int.tdiv_eq_ediv_of_nonneg h.1]
  have e2 : sw x 2 = x / 65536 := by show (sw x 1).tdiv 256 = _; rw [Int.tdiv_eq_ediv_of_nonneg (sw_w h 1).1, e1]; omega
  have e3 : sw x 3 = x / 16777216 := by show (sw x 2).tdiv 256 = _; rw [Int.tdiv_eq_ediv_of_nonneg (sw_w h 2).1, e2]; omega
  have e0 : sw x 0 = x := rfl
  have h0 := h.1
  have key : ∀ (c : Nat) (k d : Int), 0 < d → sw x c = x / d → (2 : Int) ^ min (Int.toNat k) (IntKind.bits .u32) = d → IntKind.wrap .u8 ((sw x c).tmod 256) = wv x k := by
    intro c k d hd hs hk
    unfold wv
    rw [hk, hs, Int.fdiv_eq_ediv_of_nonneg _ (by omega), Int.tmod_eq_emod_of_nonneg (Int.ediv_nonneg h0 (by omega)), IntKind.wrap_u8, IntKind.wrap_u8]
    omega
  unfold w4r bw w4
  have k0 : IntKind.wrap .u8 ((sw x 0).tmod 256) = IntKind.wrap .u8 x := by
    show IntKind.wrap .u8 (x.tmod 256) = _
    rw [Int.tmod_eq_emod_of_nonneg h0, IntKind.wrap_u8, IntKind.wrap_u8]
    omega
  rw [key 3 24 16777216 (by omega) e3 (by decide), key 2 16 65536 (by omega) e2 (by decide), key 1 8 256 (by omega) e1 (by decide), k0]
def outW (v : H8) : List Tr := w4r v.a ++ w4r v.b ++ w4r v.c ++ w4r v.d ++ w4r v.e ++ w4r v.f ++ w4r v.g ++ w4r v.h
theorem outW_eq {v : H8} (h : v.W) : outW v = outH v := by
  unfold outW outH
  rw [w4r_eq h.a, w4r_eq h.b, w4r_eq h.c, w4r_eq h.d, w4r_eq h.e, w4r_eq h.f, w4r_eq h.g, w4r_eq h.h]
theorem pad_len (L : List Tr) : (pad L).length % 64 = 0 ∧ (pad L).length ≤ L.length + 80 := by
  unfold pad
  have hz : padz (L.length % 64) = (119 - L.length % 64) % 64 := rfl
  have he : (e8 (8 * (L.length : Int))).length = 8 := rfl
  simp only [List.length_append, List.length_replicate, List.length_singleton, he]
  omega
theorem pad_b {L : List Tr} (h : AllB L) : AllB (pad L) := by
  unfold pad
  exact ((h.app (one_b (by omega))).app (fun y hy => ⟨0, List.eq_of_mem_replicate hy, by omega, by omega⟩)).app (e8_b _)
theorem gw_eq {L M : List Tr} {i j : Nat} (h : L[i]? = M[j]?) : gw L i = gw M j := by unfold gw; rw [h]
end Stk
