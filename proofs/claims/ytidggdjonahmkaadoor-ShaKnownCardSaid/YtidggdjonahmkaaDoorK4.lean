/- All the blocks. -/
import Derived.Test.YtidggdjonahmkaaDoorKC1
import Derived.Test.YtidggdjonahmkaaDoorKC2
import Derived.Test.YtidggdjonahmkaaDoorKC3
import Derived.Test.YtidggdjonahmkaaDoorKC4
namespace Stk
open Go
set_option maxRecDepth 1000000
set_option linter.unusedSimpArgs false
set_option linter.unusedVariables false
set_option maxHeartbeats 8000000
theorem all_blocks : itH lsA 15625 hz = toH 2061136107 1745259042 791610055 2140370626 1884297759 3529239238 671294972 693152569 := by
  show itH lsA 15625 (toH 1779033703 3144134277 1013904242 2773480762 1359893119 2600822924 528734635 1541459225) = _
  rw [show 15625 = 1600 + 14025 from rfl, itH_add, ch0]
  rw [show 14025 = 1600 + 12425 from rfl, itH_add, ch1600]
  rw [show 12425 = 1600 + 10825 from rfl, itH_add, ch3200]
  rw [show 10825 = 1600 + 9225 from rfl, itH_add, ch4800]
  rw [show 9225 = 1600 + 7625 from rfl, itH_add, ch6400]
  rw [show 7625 = 1600 + 6025 from rfl, itH_add, ch8000]
  rw [show 6025 = 1600 + 4425 from rfl, itH_add, ch9600]
  rw [show 4425 = 1600 + 2825 from rfl, itH_add, ch11200]
  rw [show 2825 = 1600 + 1225 from rfl, itH_add, ch12800]
  exact ch14400
end Stk
namespace Stk
open Go
set_option maxRecDepth 100000
set_option linter.unusedSimpArgs false
set_option linter.unusedVariables false
set_option maxHeartbeats 8000000
theorem rs_words (bs : List Tr) (H H' : H8) : ∀ t, (rs bs H t).1 = (rs bs H' t).1
  | 0 => rfl
  | t + 1 => by
    show ((rs bs H t).1.set t _) = ((rs bs H' t).1.set t _)
    rw [rs_words bs H H' t]
theorem rdl_append : ∀ (l m : List (Int × Int)) (v : H8), rdl (l ++ m) v = rdl m (rdl l v)
  | [], m, v => rfl
  | (k, w) :: l, m, v => by
    show rdl (l ++ m) (rd v k w) = _
    rw [rdl_append l m]; rfl
theorem rs_rdl (bs : List Tr) (H : H8) : ∀ n, (rs bs H n).2 = rdl ((List.range n).map fun t => (kk t, wd bs (rs bs hz t).1 t)) H
  | 0 => rfl
  | n + 1 => by
    rw [List.range_succ, List.map_append, rdl_append, ← rs_rdl bs H n]
    show rd (rs bs H n).2 (kk n) (wd bs (rs bs H n).1 n) = rd _ (kk n) (wd bs (rs bs hz n).1 n)
    rw [rs_words bs H hz n]
theorem comp_A (H : H8) : comp A64 H = ad8 H (rdl lsA H) := by
  unfold comp lsA
  rw [rs_rdl A64 H 64]
theorem itH_last (l : List (Int × Int)) (n : Nat) (v : H8) : itH l (n + 1) v = ad8 (itH l n v) (rdl l (itH l n v)) := itH_add l n 1 v
theorem hb_blocks {P R : List Tr} {N : Nat} (hP : P = List.replicate (64 * N) (u8 97) ++ R) : ∀ k, k ≤ N → hb P k = itH lsA k hz
  | 0, _ => rfl
  | k + 1, h => by
    show comp ((P.drop (64 * k)).take 64) (hb P k) = _
    have hb1 : (P.drop (64 * k)).take 64 = A64 := by
      rw [hP, List.drop_append_of_le_length (by rw [List.length_replicate]; omega), List.drop_replicate, List.take_append_of_le_length (by rw [List.length_replicate]; omega), List.take_replicate, Nat.min_eq_left (by omega)]
    rw [hb1, hb_blocks hP k (by omega), comp_A, itH_last]
def lastB (n : Int) : List Tr := [u8 128] ++ List.replicate 55 (u8 0) ++ e8 n
theorem sha_blocks (N : Nat) : shaL (List.replicate (64 * N) (u8 97)) = outH (comp (lastB (8 * ((64 * N : Nat) : Int))) (itH lsA N hz)) := by
  have hpad : pad (List.replicate (64 * N) (u8 97)) = List.replicate (64 * N) (u8 97) ++ lastB (8 * ((64 * N : Nat) : Int)) := by
    unfold pad lastB
    rw [List.length_replicate, show 64 * N % 64 = 0 by omega, show padz 0 = 55 from rfl]
    simp only [List.append_assoc]
  have hlen : (pad (List.replicate (64 * N) (u8 97))).length / 64 = N + 1 := by
    rw [hpad, List.length_append, List.length_replicate, show (lastB (8 * ((64 * N : Nat) : Int))).length = 64 from rfl]; omega
  unfold shaL
  rw [hlen]
  show outH (comp (((pad (List.replicate (64 * N) (u8 97))).drop (64 * N)).take 64) (hb (pad (List.replicate (64 * N) (u8 97))) N)) = _
  rw [hb_blocks hpad N (Nat.le_refl _), hpad]
  have hd : ((List.replicate (64 * N) (u8 97) ++ lastB (8 * ((64 * N : Nat) : Int))).drop (64 * N)).take 64 = lastB (8 * ((64 * N : Nat) : Int)) := by
    rw [List.drop_append_of_le_length (by rw [List.length_replicate]; omega), List.drop_replicate, Nat.sub_self, List.replicate_zero, List.nil_append, List.take_of_length_le (by show 64 ≤ 64; omega)]
  rw [hd]
abbrev milS : ByteArray := ⟨#[99, 100, 99, 55, 54, 101, 53, 99, 57, 57, 49, 52, 102, 98, 57, 50, 56, 49, 97, 49, 99, 55, 101, 50, 56, 52, 100, 55, 51, 101, 54, 55, 102, 49, 56, 48, 57, 97, 52, 56, 97, 52, 57, 55, 50, 48, 48, 101, 48, 52, 54, 100, 51, 57, 99, 99, 99, 55, 49, 49, 50, 99, 100, 48]⟩
theorem million : strOf (tl (shaL (List.replicate (64 * 15625) (u8 97))) 32) = milS := by
  rw [sha_blocks 15625, all_blocks]
  have h : ∀ n : Int, n = 8000000 → strOf (tl (outH (comp (lastB n) (toH 2061136107 1745259042 791610055 2140370626 1884297759 3529239238 671294972 693152569))) 32) = milS := by
    rintro n rfl
    decide +kernel
  exact h _ (by decide)
end Stk
