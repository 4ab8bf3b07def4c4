/- Texts go there and back: plain Lean. -/
import Derived.Test.YtidggdjonahmkaaDoorTexts
namespace Stk
open Go
set_option maxRecDepth 100000
set_option linter.unusedSimpArgs false
set_option linter.unusedVariables false
set_option maxHeartbeats 4000000
theorem tl_get (X : List Tr) : ∀ (n j : Nat), j < n → (tl X n)[2 * j]? = some (u8 (dc (gw X j / 16))) ∧ (tl X n)[2 * j + 1]? = some (u8 (dc (gw X j % 16)))
  | 0, j, h => by omega
  | n + 1, j, h => by
    rw [tl_next]
    by_cases hj : j < n
    · rw [List.getElem?_append_left (by rw [tl_len]; omega), List.getElem?_append_left (by rw [tl_len]; omega)]
      exact tl_get X n j hj
    · have : j = n := by omega
      subst this
      rw [List.getElem?_append_right (by rw [tl_len]; omega), List.getElem?_append_right (by rw [tl_len]; omega), tl_len]
      rw [show 2 * j - 2 * j = 0 by omega, show 2 * j + 1 - 2 * j = 1 by omega]
      exact ⟨rfl, rfl⟩
theorem cv_str {L : List Tr} {i : Nat} {v : Int} (h : L[i]? = some (u8 v)) (hv : 0 ≤ v ∧ v ≤ 255) : cv (strOf L) i = v := by
  have e : (strOf L).data.toList[i]? = some (UInt8.ofNat v.toNat) := by
    show ((L.map byteOfT).toArray).toList[i]? = _
    simp only [List.toList_toArray]
    rw [List.getElem?_map, h]; rfl
  unfold cv
  rw [List.getD_eq_getElem?_getD, e]
  show ((UInt8.ofNat v.toNat).toNat : Int) = v
  rw [UInt8.toNat_ofNat']
  omega
theorem dg_dc {n : Int} (h : 0 ≤ n ∧ n ≤ 15) : dg (dc n) = n := by
  unfold dg dc
  split <;> (split <;> first | omega | (split <;> omega))
theorem dc_dg {c : Int} (h : 0 ≤ dg c) : dc (dg c) = c := by
  unfold dg at h ⊢
  unfold dc
  split at h
  · rename_i h1; rw [if_pos h1]; split <;> omega
  · rename_i h1
    split at h
    · rename_i h2; rw [if_neg h1, if_pos h2]; split <;> omega
    · omega
theorem text_size (X : List Tr) : (strOf (tl X 32)).size = 64 := by rw [strOf_size, tl_len]
theorem parse_text {X : List Tr} (hb : AllB X) (hl : X.length = 32) : parse (strOf (tl X 32)) = (X, 0) := by
  have hc : ∀ j, j < 32 → dg (cv (strOf (tl X 32)) (2 * j)) = gw X j / 16 ∧ dg (cv (strOf (tl X 32)) (2 * j + 1)) = gw X j % 16 := by
    intro j hj
    obtain ⟨g1, g2⟩ := tl_get X 32 j hj
    have g := (hb.get (show j < X.length by omega)).2
    have d1 := dc_b (n := gw X j / 16) (by omega)
    have d2 := dc_b (n := gw X j % 16) (by omega)
    rw [cv_str g1 (by omega), cv_str g2 (by omega), dg_dc (by omega), dg_dc (by omega)]
    exact ⟨rfl, rfl⟩
  have hg : ∀ j, j < 64 → 0 ≤ dg (cv (strOf (tl X 32)) j) := by
    intro j hj
    have g := (hb.get (show j / 2 < X.length by omega)).2
    obtain ⟨c1, c2⟩ := hc (j / 2) (by omega)
    by_cases he : j % 2 = 0
    · rw [show 2 * (j / 2) = j by omega] at c1; omega
    · rw [show 2 * (j / 2) + 1 = j by omega] at c2; omega
  rw [good_yes (text_size X) hg]
  congr 1
  unfold pl
  rw [Nat.sub_self, List.replicate_zero, List.append_nil]
  apply List.ext_getElem?
  intro i
  by_cases hi : i < 32
  · rw [List.getElem?_map, List.getElem?_range hi]
    obtain ⟨c1, c2⟩ := hc i hi
    obtain ⟨g1, g2⟩ := hb.get (show i < X.length by omega)
    rw [g1]
    show some (u8 (16 * dg (cv (strOf (tl X 32)) (2 * i)) + dg (cv (strOf (tl X 32)) (2 * i + 1)))) = _
    rw [c1, c2]
    congr 2
    omega
  · rw [List.getElem?_eq_none (by simp; omega), List.getElem?_eq_none (by omega)]
theorem text_inj {X Y : List Tr} (hb : AllB X) (hl : X.length = 32) (hb' : AllB Y) (hl' : Y.length = 32) : strOf (tl X 32) = strOf (tl Y 32) ↔ X = Y := by
  constructor
  · intro h
    have h1 := parse_text hb hl
    rw [h, parse_text hb' hl'] at h1
    exact (congrArg Prod.fst h1).symm
  · rintro rfl; rfl
theorem good_spec {s : ByteArray} (h : good s = true) : s.size = 64 ∧ ∀ j, j < 64 → 0 ≤ dg (cv s j) := by
  unfold good at h
  rw [Bool.and_eq_true] at h
  refine ⟨of_decide_eq_true h.1, fun j hj => ?_⟩
  have := List.all_eq_true.1 h.2 (j / 2) (List.mem_range.2 (by omega))
  unfold okd at this
  rw [Bool.and_eq_true] at this
  have h1 := of_decide_eq_true this.1
  have h2 := of_decide_eq_true this.2
  by_cases he : j % 2 = 0
  · rw [show 2 * (j / 2) = j by omega] at h1; exact h1
  · rw [show 2 * (j / 2) + 1 = j by omega] at h2; exact h2
theorem pl_at {s : ByteArray} {j : Nat} (hj : j < 32) : gw (pl s 32) j = pv s j := by
  unfold gw pl
  rw [Nat.sub_self, List.replicate_zero, List.append_nil, List.getElem?_map, List.getElem?_range hj]
  rfl
theorem ofNat_cv (s : ByteArray) (i : Nat) : UInt8.ofNat (cv s i).toNat = s.data.toList.getD i 0 := by
  unfold cv
  rw [Int.toNat_natCast]
  exact UInt8.ofNat_toNat
theorem text_parse {s : ByteArray} (h : good s = true) : strOf (tl (pl s 32) 32) = s := by
  obtain ⟨hs, hd⟩ := good_spec h
  apply ByteArray.ext
  apply Array.ext'
  show ((tl (pl s 32) 32).map byteOfT).toArray.toList = s.data.toList
  simp only [List.toList_toArray]
  have hsl : s.data.toList.length = 64 := by rw [Array.length_toList]; exact hs
  apply List.ext_getElem?
  intro i
  by_cases hi : i < 64
  · obtain ⟨g1, g2⟩ := tl_get (pl s 32) 32 (i / 2) (by omega)
    rw [pl_at (by omega)] at g1 g2
    have p1 := hd (2 * (i / 2)) (by omega)
    have p2 := hd (2 * (i / 2) + 1) (by omega)
    have l1 := dg_le (cv s (2 * (i / 2)))
    have l2 := dg_le (cv s (2 * (i / 2) + 1))
    have q1 : pv s (i / 2) / 16 = dg (cv s (2 * (i / 2))) := by unfold pv; omega
    have q2 : pv s (i / 2) % 16 = dg (cv s (2 * (i / 2) + 1)) := by unfold pv; omega
    rw [q1, dc_dg p1] at g1
    rw [q2, dc_dg p2] at g2
    rw [List.getElem?_map]
    have key : (tl (pl s 32) 32)[i]? = some (u8 (cv s i)) := by
      by_cases he : i % 2 = 0
      · rw [show 2 * (i / 2) = i by omega] at g1; exact g1
      · rw [show 2 * (i / 2) + 1 = i by omega] at g2; exact g2
    rw [key]
    show some (UInt8.ofNat (cv s i).toNat) = _
    rw [ofNat_cv, List.getD_eq_getElem?_getD, List.getElem?_eq_getElem (by omega)]
    rfl
  · rw [List.getElem?_eq_none (by rw [List.length_map, tl_len]; omega), List.getElem?_eq_none (by omega)]
end Stk
