/- ImageKnown: the rows, in plain Lean. -/
import Derived.Test.YtcjmkbmeiefojaaP2
namespace Stk
open Go
set_option maxRecDepth 100000
set_option linter.unusedSimpArgs false
set_option linter.unusedVariables false
set_option maxHeartbeats 4000000
theorem zt (n : Nat) (x : Tr) : List.take n (List.drop 0 (List.replicate n x)) = List.replicate n x := by simp
theorem zb (n : Nat) : (List.replicate n (Tr.int .u8 0)).all isByte = true := by simp [isByte]
theorem zs (n : Nat) : (strOf (List.replicate n (Tr.int .u8 0))).data.toList.map byteT = List.replicate n (Tr.int .u8 0) := by
  simp [strOf, byteOfT, byteT]
theorem zB (n : Nat) : AllB (List.replicate n (Tr.int .u8 0)) := fun y hy => ⟨0, List.eq_of_mem_replicate hy, by omega, by omega⟩
theorem dec_long {L : List Tr} (h : L.length > 65536) : decB L = (im0, 3) := by unfold decB; rw [if_pos h]
theorem byt_z {n i : Nat} : byt (List.replicate n (Tr.int .u8 0)) i = 0 := by
  unfold byt
  rw [List.getElem?_replicate]
  by_cases h : i < n
  · rw [if_pos h]
  · rw [if_neg h]
theorem zl (n : Nat) (x : Tr) : (strOf (List.replicate n x)).data.size = n := by simp [strOf]
theorem dec_zeros {n : Nat} (h1 : n ≤ 65536) (h2 : 3 < n) : decB (List.replicate n (Tr.int .u8 0)) = (im0, 5) := by
  rw [decB_size (m := 0) (p := 0) (fun _ => by rw [byt_z]; rfl) (fun _ => by rw [byt_z, byt_z]; rfl) (by omega) (by omega) (by rw [List.length_replicate]; exact h1), if_neg (by rw [List.length_replicate]; omega), if_pos (by rw [List.length_replicate]; omega)]
structure RowOk (y : Tr) : Prop where
  h : ∃ s e, y = .agg [.str s, .int .i64 e] ∧ decB (s.data.toList.map byteT) = (im0, e) ∧ AllB (s.data.toList.map byteT) ∧ (s.data.toList.map byteT).length ≤ 2 ^ 47
theorem byteT_B (s : ByteArray) : AllB (s.data.toList.map byteT) := fun y hy => by
  obtain ⟨b, _, rfl⟩ := List.mem_map.1 hy
  exact ⟨b.toNat, rfl, by omega, by have := b.toNat_lt; omega⟩
theorem row_ok {s : ByteArray} {e : Int} (h : decB (s.data.toList.map byteT) = (im0, e)) (hl : s.data.size ≤ 65537) : RowOk (.agg [.str s, .int .i64 e]) :=
  ⟨s, e, rfl, h, byteT_B s, by rw [List.length_map, Array.length_toList]; omega⟩
theorem rows_ok {Z1 Z2 : List Tr} (h1 : List.replicate (Int.toNat 65537) (Tr.int .u8 0) = Z1) (h2 : List.replicate (Int.toNat 65536) (Tr.int .u8 0) = Z2) :
    ∀ y ∈ [Tr.agg [Tr.str { data := #[0, 0, 0] }, Tr.int IntKind.i64 0],
            Tr.agg [Tr.str { data := #[0, 0] }, Tr.int IntKind.i64 4],
            Tr.agg [Tr.str { data := #[5] }, Tr.int IntKind.i64 5],
            Tr.agg [Tr.str { data := #[0, 1, 0] }, Tr.int IntKind.i64 4],
            Tr.agg [Tr.str { data := #[0, 0, 0, 0] }, Tr.int IntKind.i64 5],
            Tr.agg [Tr.str { data := #[] }, Tr.int IntKind.i64 4],
            Tr.agg [Tr.str { data := #[0, 1, 2] }, Tr.int IntKind.i64 5],
            Tr.agg [Tr.str { data := #[4, 1] }, Tr.int IntKind.i64 4], Tr.agg [Tr.str (strOf Z1), Tr.int IntKind.i64 3],
            Tr.agg [Tr.str (strOf Z2), Tr.int IntKind.i64 5]], RowOk y := by
  have e1 : decB ((strOf Z1).data.toList.map byteT) = (im0, 3) := by rw [← h1, zs]; exact dec_long (by rw [List.length_replicate]; decide)
  have e2 : decB ((strOf Z2).data.toList.map byteT) = (im0, 5) := by rw [← h2, zs]; exact dec_zeros (by decide) (by decide)
  have l1 : (strOf Z1).data.size ≤ 65537 := by rw [← h1, zl]; decide
  have l2 : (strOf Z2).data.size ≤ 65537 := by rw [← h2, zl]; decide
  generalize strOf Z1 = s1 at e1 l1 ⊢
  generalize strOf Z2 = s2 at e2 l2 ⊢
  intro y hy
  simp only [List.mem_cons, List.not_mem_nil, or_false] at hy
  rcases hy with rfl | rfl | rfl | rfl | rfl | rfl | rfl | rfl | rfl | rfl
  · exact row_ok rfl (by decide)
  · exact row_ok rfl (by decide)
  · exact row_ok rfl (by decide)
  · exact row_ok rfl (by decide)
  · exact row_ok rfl (by decide)
  · exact row_ok rfl (by decide)
  · exact row_ok rfl (by decide)
  · exact row_ok rfl (by decide)
  · exact row_ok e1 l1
  · exact row_ok e2 l2
theorem zM (n : Nat) : AllM (List.replicate n (mapT 0 0 0 0)) := fun y hy => ⟨0, 0, 0, 0, List.eq_of_mem_replicate hy, by unfold in64; omega, by unfold in64; omega, by unfold in64; omega, by unfold in64; omega⟩
theorem zC (n : Nat) : AllC (List.replicate n (insT 0 0 0 0 0)) := fun y hy => ⟨0, 0, 0, 0, 0, List.eq_of_mem_replicate hy, by constructor <;> omega⟩
theorem enc_large {x : Im} (h : x.A.length > 4 ∨ x.B.length > 512) : x.enc = ([], 3) := by unfold Im.enc; rw [if_pos h]
theorem enc_zeros {a b : Nat} (ha : a ≤ 4) (hb : b ≤ 512) : (Im.enc ⟨true, List.replicate a (mapT 0 0 0 0), true, List.replicate b (insT 0 0 0 0 0)⟩).2 = 0 ∧ (Im.enc ⟨true, List.replicate a (mapT 0 0 0 0), true, List.replicate b (insT 0 0 0 0 0)⟩).1.length = 3 + 4 * a + 8 * b := by
  have h1 : (List.replicate a (mapT 0 0 0 0)).all mfit = true := by
    rw [List.all_eq_true]
    intro y hy
    rw [List.eq_of_mem_replicate hy]; decide
  have h2 : (List.replicate b (insT 0 0 0 0 0)).all ifit = true := by
    rw [List.all_eq_true]
    intro y hy
    rw [List.eq_of_mem_replicate hy]; decide
  have h0 : ¬ ((List.replicate a (mapT 0 0 0 0)).length > 4 ∨ (List.replicate b (insT 0 0 0 0 0)).length > 512) := by
    rw [List.length_replicate, List.length_replicate]; omega
  have he : Im.enc ⟨true, List.replicate a (mapT 0 0 0 0), true, List.replicate b (insT 0 0 0 0 0)⟩ = (Im.all ⟨true, List.replicate a (mapT 0 0 0 0), true, List.replicate b (insT 0 0 0 0 0)⟩ (List.replicate b (insT 0 0 0 0 0)).length, 0) := by
    unfold Im.enc
    rw [if_neg h0, if_neg (by rw [h1]; decide), if_neg (by rw [h2]; decide)]
  rw [he]
  refine ⟨rfl, ?_⟩
  rw [all_len (zM a) (zC b) _ (Nat.le_refl _), List.length_replicate, List.length_replicate]
end Stk
