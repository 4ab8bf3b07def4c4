/- Texts and digests, by the document. -/
import Derived.Test.YtidggdjonahmkaaDoorT8
namespace Stk
open Go
set_option maxRecDepth 100000
set_option linter.unusedSimpArgs false
set_option linter.unusedVariables false
set_option maxHeartbeats 8000000
theorem strOf_append (X Y : List Tr) : strOf (X ++ Y) = strOf X ++ strOf Y := by
  unfold strOf
  apply ByteArray.ext
  simp [ByteArray.data_append]
theorem digs_cut {n : Int} (h : 0 ≤ n ∧ n ≤ 15) {m : Int} (hm : m = n + 1) : digs.extract n.toNat m.toNat = strOf [u8 (dc n)] := by
  have key : ∀ k : Fin 16, digs.extract k.val (k.val + 1) = strOf [u8 (dc (k.val : Int))] := by decide +kernel
  have := key ⟨n.toNat, by omega⟩
  simp only [Int.toNat_of_nonneg h.1] at this
  rw [show m.toNat = n.toNat + 1 by omega]
  exact this
theorem strOf_size (X : List Tr) : (strOf X).size = X.length := by
  show (List.toArray _).size = _
  simp
theorem r_text (hs : List Tr) (hb : AllB hs) (hl : hs.length = 32) : ACalls PP GG F.ref17_Text [.t (.arr 32 hs)] [] fun r H' => r = .t (.str (strOf (tl hs 32))) ∧ H' = [] := by
  refine K.ref17_Text.callsC rfl ?_
  (conv => arg 3; whnf); repeat (first | ((with_reducible refine sat_brT ?_ ?_); rfl; conv => arg 3; whnf) | ((with_reducible refine sat_brF ?_ ?_); rfl; conv => arg 3; whnf) | ((with_reducible refine sat_eqv ?_ ?_); rfl; conv => arg 3; whnf))
  refine sat_loopOf mkX_ops (σ := XSt) (fun x => [(1, pt 0), (3, .t (.str (strOf (tl hs x.i)))), (4, ti x.i)]) (fun x => [.var (.t (.arr 32 hs))]) (fun x => 32 - x.i)
    (fun ex fr' H' => ex = .exit 0 ∧ fr' = [(3, .t (.str (strOf (tl hs 32))))] ∧ H' = [.var (.t (.arr 32 hs))]) ⟨0, Nat.zero_le _⟩ ?_ ?_
  · rintro ⟨i, im⟩
    dsimp only
    refine sat_br (fun hi => ?_) (fun hi => ?_)
    · have hi : i < 32 := by have := of_decide_eq_true hi; omega
      obtain ⟨g1, g2⟩ := hb.get (show i < hs.length by omega)
      have htn := tl_next hs i
      have htl := tl_len hs i
      generalize gw hs i = x at g1 g2 htn
      have hq : Int.tdiv x 16 = x / 16 := Int.tdiv_eq_ediv_of_nonneg g2.1
      have hr : Int.tmod x 16 = x % 16 := Int.tmod_eq_emod_of_nonneg g2.1
      have hsz := strOf_size (tl hs i)
      have hnx : strOf (tl hs (i + 1)) = strOf (tl hs i) ++ strOf [u8 (dc (x / 16))] ++ strOf [u8 (dc (x % 16))] := by
        rw [htn, show [u8 (dc (x / 16)), u8 (dc (x % 16))] = [u8 (dc (x / 16))] ++ [u8 (dc (x % 16))] from rfl, ← List.append_assoc, strOf_append, strOf_append]
      generalize strOf (tl hs i) = s at hsz hnx ⊢
      (conv => arg 3; whnf); repeat (first | ((with_reducible refine sat_brT ?_ ?_); rfl; conv => arg 3; whnf) | ((with_reducible refine sat_brF ?_ ?_); rfl; conv => arg 3; whnf) | ((with_reducible refine sat_eqv ?_ ?_); rfl; conv => arg 3; whnf))
      refine sat_asrt (decide_eq_true (by omega)) ?_
      (conv => arg 3; whnf); repeat (first | ((with_reducible refine sat_brT ?_ ?_); rfl; conv => arg 3; whnf) | ((with_reducible refine sat_brF ?_ ?_); rfl; conv => arg 3; whnf) | ((with_reducible refine sat_eqv ?_ ?_); rfl; conv => arg 3; whnf))
      refine sat_idx (u8 x) (by omega) (by rw [Int.toNat_natCast, Int.toNat_natCast]; exact g1) ?_
      (conv => arg 3; whnf); repeat (first | ((with_reducible refine sat_brT ?_ ?_); rfl; conv => arg 3; whnf) | ((with_reducible refine sat_brF ?_ ?_); rfl; conv => arg 3; whnf) | ((with_reducible refine sat_eqv ?_ ?_); rfl; conv => arg 3; whnf))
      refine sat_rng (wrap64 (by omega) (by omega)) ?_
      (conv => arg 3; whnf); repeat (first | ((with_reducible refine sat_brT ?_ ?_); rfl; conv => arg 3; whnf) | ((with_reducible refine sat_brF ?_ ?_); rfl; conv => arg 3; whnf) | ((with_reducible refine sat_eqv ?_ ?_); rfl; conv => arg 3; whnf))
      repeat (first | (rw [hq]) | (rw [hr]) | ((with_reducible refine sat_rng ?_ ?_); (exact wrap64 (by omega) (by omega)); (conv => arg 3; whnf); repeat (first | ((with_reducible refine sat_brT ?_ ?_); rfl; conv => arg 3; whnf) | ((with_reducible refine sat_brF ?_ ?_); rfl; conv => arg 3; whnf) | ((with_reducible refine sat_eqv ?_ ?_); rfl; conv => arg 3; whnf))) | ((with_reducible refine sat_asrt ?_ ?_); (first | rfl | (exact decide_eq_true (by omega)) | (exact decide_eq_true ⟨by omega, by show _ ≤ (16 : Int); omega⟩)); (conv => arg 3; whnf); repeat (first | ((with_reducible refine sat_brT ?_ ?_); rfl; conv => arg 3; whnf) | ((with_reducible refine sat_brF ?_ ?_); rfl; conv => arg 3; whnf) | ((with_reducible refine sat_eqv ?_ ?_); rfl; conv => arg 3; whnf))))
      rw [digs_cut (n := x / 16) (by omega) rfl]
      refine sat_asrt (decide_eq_true (by show ((s.size + 1 : Nat) : Int) ≤ 9223372036854775807; omega)) ?_
      (conv => arg 3; whnf); repeat (first | ((with_reducible refine sat_brT ?_ ?_); rfl; conv => arg 3; whnf) | ((with_reducible refine sat_brF ?_ ?_); rfl; conv => arg 3; whnf) | ((with_reducible refine sat_eqv ?_ ?_); rfl; conv => arg 3; whnf))
      repeat (first | (rw [hq]) | (rw [hr]) | ((with_reducible refine sat_rng ?_ ?_); (exact wrap64 (by omega) (by omega)); (conv => arg 3; whnf); repeat (first | ((with_reducible refine sat_brT ?_ ?_); rfl; conv => arg 3; whnf) | ((with_reducible refine sat_brF ?_ ?_); rfl; conv => arg 3; whnf) | ((with_reducible refine sat_eqv ?_ ?_); rfl; conv => arg 3; whnf))) | ((with_reducible refine sat_asrt ?_ ?_); (first | rfl | (exact decide_eq_true (by omega)) | (exact decide_eq_true ⟨by omega, by show _ ≤ (16 : Int); omega⟩)); (conv => arg 3; whnf); repeat (first | ((with_reducible refine sat_brT ?_ ?_); rfl; conv => arg 3; whnf) | ((with_reducible refine sat_brF ?_ ?_); rfl; conv => arg 3; whnf) | ((with_reducible refine sat_eqv ?_ ?_); rfl; conv => arg 3; whnf))))
      rw [digs_cut (n := x % 16) (by omega) rfl]
      refine sat_asrt (decide_eq_true (by rw [ByteArray.size_append]; show ((s.size + 1 + 1 : Nat) : Int) ≤ 9223372036854775807; omega)) ?_
      (conv => arg 3; whnf); repeat (first | ((with_reducible refine sat_brT ?_ ?_); rfl; conv => arg 3; whnf) | ((with_reducible refine sat_brF ?_ ?_); rfl; conv => arg 3; whnf) | ((with_reducible refine sat_eqv ?_ ?_); rfl; conv => arg 3; whnf))
      refine sat_rng (wrap64 (by omega) (by omega)) ?_
      rw [← hnx]
      exact sat_ret ⟨⟨i + 1, hi⟩, rfl, rfl, by show 32 - (i + 1) < 32 - i; omega⟩
    · have hi : i = 32 := by have := of_decide_eq_false hi; omega
      subst hi
      (conv => arg 3; whnf); repeat (first | ((with_reducible refine sat_brT ?_ ?_); rfl; conv => arg 3; whnf) | ((with_reducible refine sat_brF ?_ ?_); rfl; conv => arg 3; whnf) | ((with_reducible refine sat_eqv ?_ ?_); rfl; conv => arg 3; whnf))
      exact sat_ret ⟨rfl, rfl, rfl⟩
  · rintro ex fr' H' ⟨rfl, rfl, rfl⟩
    (conv => arg 3; whnf); repeat (first | ((with_reducible refine sat_brT ?_ ?_); rfl; conv => arg 3; whnf) | ((with_reducible refine sat_brF ?_ ?_); rfl; conv => arg 3; whnf) | ((with_reducible refine sat_eqv ?_ ?_); rfl; conv => arg 3; whnf))
    exact sat_ret ⟨rfl, rfl⟩
end Stk
