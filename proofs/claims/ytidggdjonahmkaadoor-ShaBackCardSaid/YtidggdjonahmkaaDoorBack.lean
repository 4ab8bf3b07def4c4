/- ShaBack: the law's contract. -/
import Derived.Test.YtidggdjonahmkaaDoorQ1
import Derived.Laws.Strings
namespace Stk
open Go
set_option maxRecDepth 100000
set_option linter.unusedSimpArgs false
set_option linter.unusedVariables false
set_option maxHeartbeats 8000000
theorem eqbs_eq : ∀ {X Y : List Tr}, AllB X → AllB Y → X.length = Y.length → Tr.eqbs X Y = true → X = Y
  | [], [], _, _, _, _ => rfl
  | [], _ :: _, _, _, h, _ => by simp at h
  | _ :: _, [], _, _, h, _ => by simp at h
  | x :: X, y :: Y, hx, hy, hl, e => by
    obtain ⟨v, rfl, _⟩ := hx x (by simp)
    obtain ⟨w, rfl, _⟩ := hy y (by simp)
    have e : (Tr.eqb (u8 v) (u8 w) && Tr.eqbs X Y) = true := e
    rw [Bool.and_eq_true] at e
    have h1 : v = w := by have := e.1; simpa [Tr.eqb] using this
    rw [h1, eqbs_eq (fun z hz => hx z (by simp [hz])) (fun z hz => hy z (by simp [hz])) (by simpa using hl) e.2]
theorem toList_eq {a b : ByteArray} : (a.toList == b.toList) = decide (a = b) := by
  by_cases h : a = b
  · subst h; rw [beq_self_eq_true, decide_eq_true rfl]
  · rw [decide_eq_false h]
    apply beq_eq_false_iff_ne.2
    intro hh
    apply h
    apply ByteArray.ext
    apply Array.ext'
    have e : ∀ x : ByteArray, x.toList = x.data.toList := fun x => ByteArray.toList_eq x
    rw [← e, ← e, hh]
theorem same_bool {X Y : List Tr} (hb : AllB X) (hl : X.length = 32) (hb' : AllB Y) (hl' : Y.length = 32) :
    ((strOf (tl X 32)).toList == (strOf (tl Y 32)).toList) = (Tr.arr 32 X).eqb (Tr.arr 32 Y) := by
  rw [toList_eq]
  have := text_inj hb hl hb' hl'
  by_cases h : X = Y
  · subst h; rw [decide_eq_true rfl, eqb_b hb]
  · rw [decide_eq_false (fun hh => h (this.1 hh))]
    cases hh : (Tr.arr 32 X).eqb (Tr.arr 32 Y) with
    | false => rfl
    | true => exact absurd (eqbs_eq hb hb' (by omega) hh) h
theorem l_back (x0 x1 x2 : Tr) (h0 : TrD (.arr 32 (.int .u8)) x0) (h1 : TrD (.arr 32 (.int .u8)) x1) (h2 : TrD .str x2) : ACalls PP GG F.law17_ShaBack (toAVs [x0, x1, x2]) [] fun r _ => r = .t (.bool true) := by
  obtain ⟨X, rfl, hl, hb⟩ := hash_of h0
  obtain ⟨Y, rfl, hl', hb'⟩ := hash_of h1
  obtain ⟨s, rfl, _⟩ := h2
  have hpt := parse_text hb hl
  have hsame := same_bool hb hl hb' hl'
  have hsz := text_size X
  have kX := k_text X hb hl
  have kY := k_text Y hb' hl'
  generalize strOf (tl X 32) = T1 at hpt hsame hsz kX
  generalize strOf (tl Y 32) = T2 at hsame kY
  have kp := k_parse T1
  rw [hpt] at kp
  dsimp only at kp
  have ks := k_parse s
  have hsg : good s = true → parse s = (pl s 32, 0) := fun h => by unfold parse; rw [if_pos h]
  have hsn : good s = false → parse s = (List.replicate 32 (u8 0), 5) := fun h => by unfold parse; rw [if_neg (by rw [h]; decide)]
  have hst := @text_parse s
  have hsb := @pl_b s
  have hsl : (pl s 32).length = 32 := pl_len s (by omega)
  have hfX := fits_b hb hl
  have hfY := fits_b hb' hl'
  have heX := eqb_b hb
  clear hpt h0 h1
  refine K.law17_ShaBack.callsC rfl ?_
  (conv => arg 3; whnf); repeat (first | ((with_reducible refine sat_brT ?_ ?_); rfl; conv => arg 3; whnf) | ((with_reducible refine sat_brF ?_ ?_); rfl; conv => arg 3; whnf) | ((with_reducible refine sat_eqv ?_ ?_); rfl; conv => arg 3; whnf))
  refine sat_call kX ?_
  rintro r H' ⟨rfl, rfl⟩
  (conv => arg 3; whnf); repeat (first | ((with_reducible refine sat_brT ?_ ?_); rfl; conv => arg 3; whnf) | ((with_reducible refine sat_brF ?_ ?_); rfl; conv => arg 3; whnf) | ((with_reducible refine sat_eqv ?_ ?_); rfl; conv => arg 3; whnf))
  refine sat_call kp ?_
  rintro r H' ⟨rfl, rfl⟩
  (conv => arg 3; whnf); repeat (first | ((with_reducible refine sat_brT ?_ ?_); rfl; conv => arg 3; whnf) | ((with_reducible refine sat_brF ?_ ?_); rfl; conv => arg 3; whnf) | ((with_reducible refine sat_eqv ?_ ?_); rfl; conv => arg 3; whnf))
  refine sat_asrt (by rw [hfX]; rfl) ?_
  rw [heX]
  (conv => arg 3; whnf); repeat (first | ((with_reducible refine sat_brT ?_ ?_); rfl; conv => arg 3; whnf) | ((with_reducible refine sat_brF ?_ ?_); rfl; conv => arg 3; whnf) | ((with_reducible refine sat_eqv ?_ ?_); rfl; conv => arg 3; whnf))
  refine sat_asrt (by rw [hfX, hfY]; rfl) ?_
  (conv => arg 3; whnf); repeat (first | ((with_reducible refine sat_brT ?_ ?_); rfl; conv => arg 3; whnf) | ((with_reducible refine sat_brF ?_ ?_); rfl; conv => arg 3; whnf) | ((with_reducible refine sat_eqv ?_ ?_); rfl; conv => arg 3; whnf))
  refine sat_call kX ?_
  rintro r H' ⟨rfl, rfl⟩
  (conv => arg 3; whnf); repeat (first | ((with_reducible refine sat_brT ?_ ?_); rfl; conv => arg 3; whnf) | ((with_reducible refine sat_brF ?_ ?_); rfl; conv => arg 3; whnf) | ((with_reducible refine sat_eqv ?_ ?_); rfl; conv => arg 3; whnf))
  repeat (first | ((with_reducible refine sat_asrt ?_ ?_); (first | (rw [hfX, hfY]; rfl) | (rw [hfX]; rfl)); (conv => arg 3; whnf); repeat (first | ((with_reducible refine sat_brT ?_ ?_); rfl; conv => arg 3; whnf) | ((with_reducible refine sat_brF ?_ ?_); rfl; conv => arg 3; whnf) | ((with_reducible refine sat_eqv ?_ ?_); rfl; conv => arg 3; whnf))))
  refine sat_call kY ?_
  rintro r H' ⟨rfl, rfl⟩
  (conv => arg 3; whnf); repeat (first | ((with_reducible refine sat_brT ?_ ?_); rfl; conv => arg 3; whnf) | ((with_reducible refine sat_brF ?_ ?_); rfl; conv => arg 3; whnf) | ((with_reducible refine sat_eqv ?_ ?_); rfl; conv => arg 3; whnf))
  repeat (first | ((with_reducible refine sat_asrt ?_ ?_); (first | (rw [hfX, hfY]; rfl) | (rw [hfX]; rfl)); (conv => arg 3; whnf); repeat (first | ((with_reducible refine sat_brT ?_ ?_); rfl; conv => arg 3; whnf) | ((with_reducible refine sat_brF ?_ ?_); rfl; conv => arg 3; whnf) | ((with_reducible refine sat_eqv ?_ ?_); rfl; conv => arg 3; whnf))))
  rw [hsame]
  generalize hq : (Tr.arr 32 X).eqb (Tr.arr 32 Y) = q
  refine sat_brF (by cases q <;> rfl) ?_
  (conv => arg 3; whnf); repeat (first | ((with_reducible refine sat_brT ?_ ?_); rfl; conv => arg 3; whnf) | ((with_reducible refine sat_brF ?_ ?_); rfl; conv => arg 3; whnf) | ((with_reducible refine sat_eqv ?_ ?_); rfl; conv => arg 3; whnf))
  refine sat_call kX ?_
  rintro r H' ⟨rfl, rfl⟩
  (conv => arg 3; whnf); repeat (first | ((with_reducible refine sat_brT ?_ ?_); rfl; conv => arg 3; whnf) | ((with_reducible refine sat_brF ?_ ?_); rfl; conv => arg 3; whnf) | ((with_reducible refine sat_eqv ?_ ?_); rfl; conv => arg 3; whnf))
  refine sat_brF (by rw [hsz]; rfl) ?_
  (conv => arg 3; whnf); repeat (first | ((with_reducible refine sat_brT ?_ ?_); rfl; conv => arg 3; whnf) | ((with_reducible refine sat_brF ?_ ?_); rfl; conv => arg 3; whnf) | ((with_reducible refine sat_eqv ?_ ?_); rfl; conv => arg 3; whnf))
  refine sat_call ks ?_
  rintro r H' ⟨rfl, rfl⟩
  cases hg : good s with
  | true =>
    rw [hsg hg]
    have hst := hst hg
    have hsb := hsb hg
    have kt := k_text (pl s 32) hsb hsl
    rw [hst] at kt
    generalize pl s 32 = Z at kt ⊢
    (conv => arg 3; whnf); repeat (first | ((with_reducible refine sat_brT ?_ ?_); rfl; conv => arg 3; whnf) | ((with_reducible refine sat_brF ?_ ?_); rfl; conv => arg 3; whnf) | ((with_reducible refine sat_eqv ?_ ?_); rfl; conv => arg 3; whnf))
    refine sat_call kt ?_
    rintro r H' ⟨rfl, rfl⟩
    (conv => arg 3; whnf); repeat (first | ((with_reducible refine sat_brT ?_ ?_); rfl; conv => arg 3; whnf) | ((with_reducible refine sat_brF ?_ ?_); rfl; conv => arg 3; whnf) | ((with_reducible refine sat_eqv ?_ ?_); rfl; conv => arg 3; whnf))
    refine sat_brT (beq_self_eq_true s.toList) ?_
    (conv => arg 3; whnf); repeat (first | ((with_reducible refine sat_brT ?_ ?_); rfl; conv => arg 3; whnf) | ((with_reducible refine sat_brF ?_ ?_); rfl; conv => arg 3; whnf) | ((with_reducible refine sat_eqv ?_ ?_); rfl; conv => arg 3; whnf))
    refine sat_call k_wakes ?_
    rintro r H' ⟨rfl, rfl⟩
    (conv => arg 3; whnf); repeat (first | ((with_reducible refine sat_brT ?_ ?_); rfl; conv => arg 3; whnf) | ((with_reducible refine sat_brF ?_ ?_); rfl; conv => arg 3; whnf) | ((with_reducible refine sat_eqv ?_ ?_); rfl; conv => arg 3; whnf))
    exact sat_ret rfl
  | false =>
    rw [hsn hg]
    (conv => arg 3; whnf); repeat (first | ((with_reducible refine sat_brT ?_ ?_); rfl; conv => arg 3; whnf) | ((with_reducible refine sat_brF ?_ ?_); rfl; conv => arg 3; whnf) | ((with_reducible refine sat_eqv ?_ ?_); rfl; conv => arg 3; whnf))
    refine sat_asrt (by decide +kernel) ?_
    (conv => arg 3; whnf); repeat (first | ((with_reducible refine sat_brT ?_ ?_); rfl; conv => arg 3; whnf) | ((with_reducible refine sat_brF ?_ ?_); rfl; conv => arg 3; whnf) | ((with_reducible refine sat_eqv ?_ ?_); rfl; conv => arg 3; whnf))
    refine sat_call k_wakes ?_
    rintro r H' ⟨rfl, rfl⟩
    (conv => arg 3; whnf); repeat (first | ((with_reducible refine sat_brT ?_ ?_); rfl; conv => arg 3; whnf) | ((with_reducible refine sat_brF ?_ ?_); rfl; conv => arg 3; whnf) | ((with_reducible refine sat_eqv ?_ ?_); rfl; conv => arg 3; whnf))
    exact sat_ret rfl
end Stk
