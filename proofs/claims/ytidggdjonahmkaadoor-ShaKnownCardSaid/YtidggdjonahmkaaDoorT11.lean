/- wakes() returns true. -/
import Derived.Test.YtidggdjonahmkaaDoorT10
namespace Stk
open Go
set_option maxRecDepth 100000
set_option linter.unusedSimpArgs false
set_option linter.unusedVariables false
set_option maxHeartbeats 8000000
abbrev abcS : ByteArray := ⟨#[98, 97, 55, 56, 49, 54, 98, 102, 56, 102, 48, 49, 99, 102, 101, 97, 52, 49, 52, 49, 52, 48, 100, 101, 53, 100, 97, 101, 50, 50, 50, 51, 98, 48, 48, 51, 54, 49, 97, 51, 57, 54, 49, 55, 55, 97, 57, 99, 98, 52, 49, 48, 102, 102, 54, 49, 102, 50, 48, 48, 49, 53, 97, 100]⟩
theorem abc_good : good abcS = true := by decide +kernel
theorem abc_text : strOf (tl (pl abcS 32) 32) = abcS := by decide +kernel
theorem abc_sum : (Tr.arr 32 (shaL [u8 97, u8 98, u8 99])).eqb (Tr.arr 32 (pl abcS 32)) = true := by decide +kernel
theorem abc_parse : parse abcS = (pl abcS 32, 0) := by unfold parse; rw [if_pos abc_good]
theorem pl_b (s : ByteArray) (h : good s = true) : AllB (pl s 32) := by
  intro y hy
  unfold pl at hy
  rw [Nat.sub_self, List.replicate_zero, List.append_nil] at hy
  obtain ⟨j, hj, rfl⟩ := List.mem_map.1 hy
  unfold good at h
  rw [Bool.and_eq_true] at h
  have := List.all_eq_true.1 h.2 j hj
  unfold okd at this
  rw [Bool.and_eq_true] at this
  have h1 := of_decide_eq_true this.1
  have h2 := of_decide_eq_true this.2
  have g1 := dg_le (cv s (2 * j))
  have g2 := dg_le (cv s (2 * j + 1))
  exact ⟨_, rfl, by unfold pv; omega, by unfold pv; omega⟩
theorem w4_b (x : Int) : AllB (w4 x) := by
  intro y hy
  unfold w4 at hy
  simp only [List.mem_cons, List.not_mem_nil, or_false] at hy
  rcases hy with rfl | rfl | rfl | rfl
  · exact ⟨_, rfl, by unfold wv; rw [IntKind.wrap_u8]; omega, by unfold wv; rw [IntKind.wrap_u8]; omega⟩
  · exact ⟨_, rfl, by unfold wv; rw [IntKind.wrap_u8]; omega, by unfold wv; rw [IntKind.wrap_u8]; omega⟩
  · exact ⟨_, rfl, by unfold wv; rw [IntKind.wrap_u8]; omega, by unfold wv; rw [IntKind.wrap_u8]; omega⟩
  · exact ⟨_, rfl, by rw [IntKind.wrap_u8]; omega, by rw [IntKind.wrap_u8]; omega⟩
theorem AllB.app {X Y : List Tr} (h : AllB X) (h' : AllB Y) : AllB (X ++ Y) := fun y hy => (List.mem_append.1 hy).elim (h y) (h' y)
theorem sha_b (L : List Tr) : AllB (shaL L) := by
  unfold shaL outH
  exact (((((((w4_b _).app (w4_b _)).app (w4_b _)).app (w4_b _)).app (w4_b _)).app (w4_b _)).app (w4_b _)).app (w4_b _)
theorem sha_len (L : List Tr) : (shaL L).length = 32 := rfl
theorem fitsa_b : ∀ {X : List Tr}, AllB X → Tr.fitsa X (Sh.int IntKind.u8) = true
  | [], _ => by simp [Tr.fitsa]
  | x :: X, h => by
    obtain ⟨v, rfl, _⟩ := h x (by simp)
    simp only [Tr.fitsa, Tr.fits, fitsa_b (X := X) fun y hy => h y (by simp [hy])]
    rfl
theorem fits_b {X : List Tr} (h : AllB X) (hl : X.length = 32) : (Tr.arr 32 X).fits (Sh.arr 32 (Sh.int IntKind.u8)) = true := by
  simp only [Tr.fits, fitsa_b h]
  rfl
theorem k_wakes : ACalls PP GG F.law17_wakes [] [] fun r H' => r = .t (.bool true) ∧ H' = [] := by
  refine K.law17_wakes.callsC rfl ?_
  (conv => arg 3; whnf); repeat (first | ((with_reducible refine sat_brT ?_ ?_); rfl; conv => arg 3; whnf) | ((with_reducible refine sat_brF ?_ ?_); rfl; conv => arg 3; whnf) | ((with_reducible refine sat_eqv ?_ ?_); rfl; conv => arg 3; whnf))
  refine sat_call (k_parse abcS) ?_
  rintro r H' ⟨rfl, rfl⟩
  rw [show (parse abcS).1 = pl abcS 32 by rw [abc_parse], show (parse abcS).2 = 0 by rw [abc_parse]]
  have hb := pl_b abcS abc_good
  have hl := pl_len abcS (i := 32) (by omega)
  have hs := abc_sum
  have ht := abc_text
  generalize pl abcS 32 = A at hb hl hs ht ⊢
  (conv => arg 3; whnf); repeat (first | ((with_reducible refine sat_brT ?_ ?_); rfl; conv => arg 3; whnf) | ((with_reducible refine sat_brF ?_ ?_); rfl; conv => arg 3; whnf) | ((with_reducible refine sat_eqv ?_ ?_); rfl; conv => arg 3; whnf))
  refine sat_call k_new ?_
  rintro r H' ⟨rfl, rfl⟩
  (conv => arg 3; whnf); repeat (first | ((with_reducible refine sat_brT ?_ ?_); rfl; conv => arg 3; whnf) | ((with_reducible refine sat_brF ?_ ?_); rfl; conv => arg 3; whnf) | ((with_reducible refine sat_eqv ?_ ?_); rfl; conv => arg 3; whnf))
  refine sat_asrt rfl ?_
  (conv => arg 3; whnf); repeat (first | ((with_reducible refine sat_brT ?_ ?_); rfl; conv => arg 3; whnf) | ((with_reducible refine sat_brF ?_ ?_); rfl; conv => arg 3; whnf) | ((with_reducible refine sat_eqv ?_ ?_); rfl; conv => arg 3; whnf))
  refine sat_call (k_sum [u8 97, u8 98, u8 99] (fun y hy => by simp at hy; rcases hy with rfl | rfl | rfl <;> exact ⟨_, rfl, by omega, by omega⟩) (by simp)) ?_
  rintro r H' ⟨rfl, rfl⟩
  have hdb := sha_b [u8 97, u8 98, u8 99]
  have hdl := sha_len [u8 97, u8 98, u8 99]
  generalize shaL [u8 97, u8 98, u8 99] = D at hs hdb hdl ⊢
  (conv => arg 3; whnf); repeat (first | ((with_reducible refine sat_brT ?_ ?_); rfl; conv => arg 3; whnf) | ((with_reducible refine sat_brF ?_ ?_); rfl; conv => arg 3; whnf) | ((with_reducible refine sat_eqv ?_ ?_); rfl; conv => arg 3; whnf))
  refine sat_asrt (by rw [fits_b hdb hdl, fits_b hb hl]; rfl) ?_
  rw [hs]
  (conv => arg 3; whnf); repeat (first | ((with_reducible refine sat_brT ?_ ?_); rfl; conv => arg 3; whnf) | ((with_reducible refine sat_brF ?_ ?_); rfl; conv => arg 3; whnf) | ((with_reducible refine sat_eqv ?_ ?_); rfl; conv => arg 3; whnf))
  refine sat_call (k_text A hb hl) ?_
  rintro r H' ⟨rfl, rfl⟩
  rw [ht]
  (conv => arg 3; whnf); repeat (first | ((with_reducible refine sat_brT ?_ ?_); rfl; conv => arg 3; whnf) | ((with_reducible refine sat_brF ?_ ?_); rfl; conv => arg 3; whnf) | ((with_reducible refine sat_eqv ?_ ?_); rfl; conv => arg 3; whnf))
  refine sat_brT (beq_self_eq_true abcS.toList) ?_
  (conv => arg 3; whnf); repeat (first | ((with_reducible refine sat_brT ?_ ?_); rfl; conv => arg 3; whnf) | ((with_reducible refine sat_brF ?_ ?_); rfl; conv => arg 3; whnf) | ((with_reducible refine sat_eqv ?_ ?_); rfl; conv => arg 3; whnf))
  refine sat_asrt rfl ?_
  (conv => arg 3; whnf); repeat (first | ((with_reducible refine sat_brT ?_ ?_); rfl; conv => arg 3; whnf) | ((with_reducible refine sat_brF ?_ ?_); rfl; conv => arg 3; whnf) | ((with_reducible refine sat_eqv ?_ ?_); rfl; conv => arg 3; whnf))
  refine sat_call (k_write [] [u8 97, u8 98, u8 99] w0 (fun y hy => by simp at hy; rcases hy with rfl | rfl | rfl <;> exact ⟨_, rfl, by omega, by omega⟩) di0 (by simp)) ?_
  rintro r H' ⟨rfl, wt, _, rfl⟩
  (conv => arg 3; whnf); repeat (first | ((with_reducible refine sat_brT ?_ ?_); rfl; conv => arg 3; whnf) | ((with_reducible refine sat_brF ?_ ?_); rfl; conv => arg 3; whnf) | ((with_reducible refine sat_eqv ?_ ?_); rfl; conv => arg 3; whnf))
  exact sat_ret ⟨rfl, rfl⟩
end Stk
