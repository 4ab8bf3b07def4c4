/- ShaTexts: the law's contract. -/
import Derived.Test.YtidggdjonahmkaaDoorT11
namespace Stk
open Go
set_option maxRecDepth 100000
set_option linter.unusedSimpArgs false
set_option linter.unusedVariables false
set_option maxHeartbeats 8000000
theorem hash_of {x : Tr} (h : TrD (.arr 32 (.int .u8)) x) : ∃ X, x = .arr 32 X ∧ X.length = 32 ∧ AllB X := by
  obtain ⟨X, rfl, hl, h2⟩ := h
  refine ⟨X, rfl, hl, fun y hy => ?_⟩
  obtain ⟨a, rfl, w1⟩ := h2 y hy
  have := wf_u8 w1
  exact ⟨a, rfl, by omega, by omega⟩
theorem eqbs_b : ∀ {X : List Tr}, AllB X → Tr.eqbs X X = true
  | [], _ => rfl
  | x :: X, h => by
    obtain ⟨v, rfl, _⟩ := h x (by simp)
    show (Tr.eqb _ _ && Tr.eqbs X X) = true
    rw [eqbs_b (fun y hy => h y (by simp [hy]))]
    simp [Tr.eqb]
theorem eqb_b {X : List Tr} (h : AllB X) : (Tr.arr 32 X).eqb (Tr.arr 32 X) = true := by
  show Tr.eqbs X X = true
  exact eqbs_b h
theorem zero_b (n : Nat) : AllB (List.replicate n (u8 0)) := fun y hy => ⟨0, List.eq_of_mem_replicate hy, by omega, by omega⟩
theorem parse_b (s : ByteArray) : AllB (parse s).1 ∧ (parse s).1.length = 32 := by
  unfold parse
  by_cases h : good s = true
  · rw [if_pos h]; exact ⟨pl_b s h, pl_len s (by omega)⟩
  · rw [if_neg h]; exact ⟨zero_b 32, rfl⟩
theorem l_texts (x0 x1 : Tr) (h0 : TrD (.arr 32 (.int .u8)) x0) (h1 : TrD .str x1) : ACalls PP GG F.law17_ShaTexts (toAVs [x0, x1]) [] fun r _ => r = .t (.bool true) := by
  obtain ⟨X, rfl, hl, hb⟩ := hash_of h0
  obtain ⟨s, rfl, _⟩ := h1
  refine K.law17_ShaTexts.calls rfl ?_
  (conv => arg 3; whnf); repeat (first | ((with_reducible refine sat_brT ?_ ?_); rfl; conv => arg 3; whnf) | ((with_reducible refine sat_brF ?_ ?_); rfl; conv => arg 3; whnf) | ((with_reducible refine sat_eqv ?_ ?_); rfl; conv => arg 3; whnf))
  refine sat_call (k_parse s) ?_
  rintro r H' ⟨rfl, rfl⟩
  have rp := r_parse s
  obtain ⟨pb, pl⟩ := parse_b s
  generalize parse s = p at pb pl rp ⊢
  obtain ⟨A, e⟩ := p
  dsimp only at pb pl rp
  (conv => arg 3; whnf); repeat (first | ((with_reducible refine sat_brT ?_ ?_); rfl; conv => arg 3; whnf) | ((with_reducible refine sat_brF ?_ ?_); rfl; conv => arg 3; whnf) | ((with_reducible refine sat_eqv ?_ ?_); rfl; conv => arg 3; whnf))
  refine sat_call rp ?_
  rintro r H' ⟨rfl, rfl⟩
  (conv => arg 3; whnf); repeat (first | ((with_reducible refine sat_brT ?_ ?_); rfl; conv => arg 3; whnf) | ((with_reducible refine sat_brF ?_ ?_); rfl; conv => arg 3; whnf) | ((with_reducible refine sat_eqv ?_ ?_); rfl; conv => arg 3; whnf))
  refine sat_call (k_text X hb hl) ?_
  rintro r H' ⟨rfl, rfl⟩
  (conv => arg 3; whnf); repeat (first | ((with_reducible refine sat_brT ?_ ?_); rfl; conv => arg 3; whnf) | ((with_reducible refine sat_brF ?_ ?_); rfl; conv => arg 3; whnf) | ((with_reducible refine sat_eqv ?_ ?_); rfl; conv => arg 3; whnf))
  refine sat_call (r_text X hb hl) ?_
  rintro r H' ⟨rfl, rfl⟩
  (conv => arg 3; whnf); repeat (first | ((with_reducible refine sat_brT ?_ ?_); rfl; conv => arg 3; whnf) | ((with_reducible refine sat_brF ?_ ?_); rfl; conv => arg 3; whnf) | ((with_reducible refine sat_eqv ?_ ?_); rfl; conv => arg 3; whnf))
  rw [beq_self_eq_true]
  (conv => arg 3; whnf); repeat (first | ((with_reducible refine sat_brT ?_ ?_); rfl; conv => arg 3; whnf) | ((with_reducible refine sat_brF ?_ ?_); rfl; conv => arg 3; whnf) | ((with_reducible refine sat_eqv ?_ ?_); rfl; conv => arg 3; whnf))
  refine sat_asrt (by rw [fits_b pb pl]; rfl) ?_
  rw [eqb_b pb]
  (conv => arg 3; whnf); repeat (first | ((with_reducible refine sat_brT ?_ ?_); rfl; conv => arg 3; whnf) | ((with_reducible refine sat_brF ?_ ?_); rfl; conv => arg 3; whnf) | ((with_reducible refine sat_eqv ?_ ?_); rfl; conv => arg 3; whnf))
  refine sat_brT (beq_self_eq_true e) ?_
  (conv => arg 3; whnf); repeat (first | ((with_reducible refine sat_brT ?_ ?_); rfl; conv => arg 3; whnf) | ((with_reducible refine sat_brF ?_ ?_); rfl; conv => arg 3; whnf) | ((with_reducible refine sat_eqv ?_ ?_); rfl; conv => arg 3; whnf))
  refine sat_call k_wakes ?_
  rintro r H' ⟨rfl, rfl⟩
  (conv => arg 3; whnf); repeat (first | ((with_reducible refine sat_brT ?_ ?_); rfl; conv => arg 3; whnf) | ((with_reducible refine sat_brF ?_ ?_); rfl; conv => arg 3; whnf) | ((with_reducible refine sat_eqv ?_ ?_); rfl; conv => arg 3; whnf))
  exact sat_ret rfl
end Stk
