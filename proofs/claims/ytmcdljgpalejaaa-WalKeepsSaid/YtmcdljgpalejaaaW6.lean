/- The log's own checks; forms. -/
import Derived.Test.YtmcdljgpalejaaaW5
namespace Stk
open Go
set_option maxRecDepth 100000
set_option linter.unusedSimpArgs false
set_option linter.unusedVariables false
set_option maxHeartbeats 4000000
/-- A log on its disk. -/
structure Lg where
  d : Dk
  R : List (List Tr)
  size : Int
  over : Bool
abbrev Lg.H (w : Lg) : Hp := [wv 1 3 w.R none w.size w.over, w.d.v 2, .row 1 w.d.xs, .row 1 (w.R.map rx)]
abbrev Lg.H' (w : Lg) : Hp := [wv 1 5 w.R none w.size w.over, w.d.v 4, .gone, .gone, .row 1 w.d.xs, .row 1 (w.R.map rx)]
theorem k_told (w : Lg) (e : Int) : ACalls PP GG F.wal_Wal_told [pt 0, ti e] w.H fun r H' => r = ti e ∧ H' = Lg.H' { w with over := w.over || (e == 9) } := by
  obtain ⟨d, R, size, over⟩ := w
  refine K.wal_Wal_told.callsC rfl ?_
  cases over
  · (conv => arg 3; whnf); repeat (first | ((with_reducible refine sat_brT ?_ ?_); rfl; conv => arg 3; whnf) | ((with_reducible refine sat_brF ?_ ?_); rfl; conv => arg 3; whnf) | ((with_reducible refine sat_eqv ?_ ?_); rfl; conv => arg 3; whnf))
    exact sat_ret ⟨rfl, rfl⟩
  · (conv => arg 3; whnf); repeat (first | ((with_reducible refine sat_brT ?_ ?_); rfl; conv => arg 3; whnf) | ((with_reducible refine sat_brF ?_ ?_); rfl; conv => arg 3; whnf) | ((with_reducible refine sat_eqv ?_ ?_); rfl; conv => arg 3; whnf))
    exact sat_ret ⟨rfl, rfl⟩
theorem k_wlen (w : Lg) : ACalls PP GG F.wal_Wal_Len [pt 0] w.H fun r H' => r = ti w.R.length ∧ H' = w.H' := by
  refine K.wal_Wal_Len.callsC rfl ?_
  (conv => arg 3; whnf); repeat (first | ((with_reducible refine sat_brT ?_ ?_); rfl; conv => arg 3; whnf) | ((with_reducible refine sat_brF ?_ ?_); rfl; conv => arg 3; whnf) | ((with_reducible refine sat_eqv ?_ ?_); rfl; conv => arg 3; whnf))
  exact sat_ret ⟨rfl, rfl⟩
def Lg.chk (w : Lg) : Lg := { w with over := w.over || ((w.d.n : Int) != w.size) }
def Lg.rdy (w : Lg) (long : Bool) : Lg × Int := if long = true then (w, 3) else (w.chk, if w.chk.over = true then 9 else 0)
theorem k_ready0 (w : Lg) : ACalls PP GG F.wal_Wal_ready [pt 0, .t (.sl true 1 [])] w.H fun r H' => r = ti (w.rdy false).2 ∧ H' = (w.rdy false).1.H' := by
  obtain ⟨d, R, size, over⟩ := w
  refine K.wal_Wal_ready.callsC rfl ?_
  (conv => arg 3; whnf); repeat (first | ((with_reducible refine sat_brT ?_ ?_); rfl; conv => arg 3; whnf) | ((with_reducible refine sat_brF ?_ ?_); rfl; conv => arg 3; whnf) | ((with_reducible refine sat_eqv ?_ ?_); rfl; conv => arg 3; whnf))
  refine sat_loopOf mkX_ops (σ := Unit) (fun x => [(0, pt 0), (16, .t (.sl true 1 [])), (17, ti 0), (18, ti 0)]) (fun x => Lg.H ⟨d, R, size, over⟩) (fun x => 0)
    (fun ex fr' H' => H' = Lg.H ⟨d, R, size, over⟩ ∧ ex = .exit 0 ∧ fr' = [(0, pt 0), (4, .undef)]) () ?_ ?_
  · rintro ⟨⟩
    (conv => arg 3; whnf); repeat (first | ((with_reducible refine sat_brT ?_ ?_); rfl; conv => arg 3; whnf) | ((with_reducible refine sat_brF ?_ ?_); rfl; conv => arg 3; whnf) | ((with_reducible refine sat_eqv ?_ ?_); rfl; conv => arg 3; whnf))
    exact sat_ret ⟨rfl, rfl, rfl⟩
  · rintro ex fr' H' ⟨rfl, rfl, rfl⟩
    cases over
    · (conv => arg 3; whnf); repeat (first | ((with_reducible refine sat_brT ?_ ?_); rfl; conv => arg 3; whnf) | ((with_reducible refine sat_brF ?_ ?_); rfl; conv => arg 3; whnf) | ((with_reducible refine sat_eqv ?_ ?_); rfl; conv => arg 3; whnf))
      refine sat_call (k_len d) ?_
      rintro r H' ⟨rfl, rfl⟩
      (conv => arg 3; whnf); repeat (first | ((with_reducible refine sat_brT ?_ ?_); rfl; conv => arg 3; whnf) | ((with_reducible refine sat_brF ?_ ?_); rfl; conv => arg 3; whnf) | ((with_reducible refine sat_eqv ?_ ?_); rfl; conv => arg 3; whnf))
      generalize hq : ((d.n : Int) != size) = q
      cases q
      · (conv => arg 3; whnf); repeat (first | ((with_reducible refine sat_brT ?_ ?_); rfl; conv => arg 3; whnf) | ((with_reducible refine sat_brF ?_ ?_); rfl; conv => arg 3; whnf) | ((with_reducible refine sat_eqv ?_ ?_); rfl; conv => arg 3; whnf))
        refine sat_ret ⟨?_, ?_⟩ <;> simp [Lg.rdy, Lg.chk, hq]
      · (conv => arg 3; whnf); repeat (first | ((with_reducible refine sat_brT ?_ ?_); rfl; conv => arg 3; whnf) | ((with_reducible refine sat_brF ?_ ?_); rfl; conv => arg 3; whnf) | ((with_reducible refine sat_eqv ?_ ?_); rfl; conv => arg 3; whnf))
        refine sat_ret ⟨?_, ?_⟩ <;> simp [Lg.rdy, Lg.chk, hq]
    · (conv => arg 3; whnf); repeat (first | ((with_reducible refine sat_brT ?_ ?_); rfl; conv => arg 3; whnf) | ((with_reducible refine sat_brF ?_ ?_); rfl; conv => arg 3; whnf) | ((with_reducible refine sat_eqv ?_ ?_); rfl; conv => arg 3; whnf))
      refine sat_ret ⟨?_, ?_⟩ <;> simp [Lg.rdy, Lg.chk]
end Stk
