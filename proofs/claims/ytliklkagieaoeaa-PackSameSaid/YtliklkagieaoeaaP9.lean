/- The document's commands and entries out of bytes. -/
import Derived.Test.YtliklkagieaoeaaP8
namespace Stk
open Go
set_option maxRecDepth 100000
set_option linter.unusedSimpArgs false
set_option linter.unusedVariables false
set_option maxHeartbeats 4000000
theorem r_cmd (B : List Tr) (hB : AllB B) (hl : B.length ≤ 2 ^ 40) (at_ : Nat) (r : Rd) (hs : Sy B at_ r) : ACalls PP GG F.ref20_Reader_Cmd [pt 0] [rv B at_ r.e] fun v H' =>
    v = r.cmd.2.ao 1 ∧ ∃ at', Sy B at' r.cmd.1 ∧ H' = [rv B at' r.cmd.1.e, .row 1 r.cmd.2.data] := by
  have hr : AllB r.b := by rw [← hs.eq]; exact hB.drop _
  have h1 := (Rd.fixed_b hr 1 (by omega)).1
  have h2 := (Rd.num_b h1).1
  have h3 := (Rd.num_b h2).1
  have h4 := (Rd.num_b h3).1
  have h5 := (Rd.num_b h4).1
  have h6 := (Rd.mark_b h5).1
  have h7 := (Rd.hash_b h6).1
  have h8 := (Rd.count_b h7 65536).2.1
  refine K.ref20_Reader_Cmd.callsC rfl ?_
  (conv => arg 3; whnf); repeat (first | ((with_reducible refine sat_brT ?_ ?_); rfl; conv => arg 3; whnf) | ((with_reducible refine sat_brF ?_ ?_); rfl; conv => arg 3; whnf) | ((with_reducible refine sat_eqv ?_ ?_); rfl; conv => arg 3; whnf))
  refine sat_call (r_fixed B hB hl at_ r hs 1 (by omega)) ?_
  rintro v H' ⟨rfl, a1, s1, rfl⟩
  (conv => arg 3; whnf); repeat (first | ((with_reducible refine sat_brT ?_ ?_); rfl; conv => arg 3; whnf) | ((with_reducible refine sat_brF ?_ ?_); rfl; conv => arg 3; whnf) | ((with_reducible refine sat_eqv ?_ ?_); rfl; conv => arg 3; whnf))
  refine sat_rngw ?_
  (conv => arg 3; whnf); repeat (first | ((with_reducible refine sat_brT ?_ ?_); rfl; conv => arg 3; whnf) | ((with_reducible refine sat_brF ?_ ?_); rfl; conv => arg 3; whnf) | ((with_reducible refine sat_eqv ?_ ?_); rfl; conv => arg 3; whnf))
  refine sat_call (r_fixed B hB hl a1 _ s1 8 (by omega)) ?_
  rintro v H' ⟨rfl, a2, s2, rfl⟩
  (conv => arg 3; whnf); repeat (first | ((with_reducible refine sat_brT ?_ ?_); rfl; conv => arg 3; whnf) | ((with_reducible refine sat_brF ?_ ?_); rfl; conv => arg 3; whnf) | ((with_reducible refine sat_eqv ?_ ?_); rfl; conv => arg 3; whnf))
  refine sat_rngw ?_
  (conv => arg 3; whnf); repeat (first | ((with_reducible refine sat_brT ?_ ?_); rfl; conv => arg 3; whnf) | ((with_reducible refine sat_brF ?_ ?_); rfl; conv => arg 3; whnf) | ((with_reducible refine sat_eqv ?_ ?_); rfl; conv => arg 3; whnf))
  refine sat_call (r_fixed B hB hl a2 _ s2 8 (by omega)) ?_
  rintro v H' ⟨rfl, a3, s3, rfl⟩
  (conv => arg 3; whnf); repeat (first | ((with_reducible refine sat_brT ?_ ?_); rfl; conv => arg 3; whnf) | ((with_reducible refine sat_brF ?_ ?_); rfl; conv => arg 3; whnf) | ((with_reducible refine sat_eqv ?_ ?_); rfl; conv => arg 3; whnf))
  refine sat_rngw ?_
  (conv => arg 3; whnf); repeat (first | ((with_reducible refine sat_brT ?_ ?_); rfl; conv => arg 3; whnf) | ((with_reducible refine sat_brF ?_ ?_); rfl; conv => arg 3; whnf) | ((with_reducible refine sat_eqv ?_ ?_); rfl; conv => arg 3; whnf))
  refine sat_call (r_fixed B hB hl a3 _ s3 8 (by omega)) ?_
  rintro v H' ⟨rfl, a4, s4, rfl⟩
  (conv => arg 3; whnf); repeat (first | ((with_reducible refine sat_brT ?_ ?_); rfl; conv => arg 3; whnf) | ((with_reducible refine sat_brF ?_ ?_); rfl; conv => arg 3; whnf) | ((with_reducible refine sat_eqv ?_ ?_); rfl; conv => arg 3; whnf))
  refine sat_rngw ?_
  (conv => arg 3; whnf); repeat (first | ((with_reducible refine sat_brT ?_ ?_); rfl; conv => arg 3; whnf) | ((with_reducible refine sat_brF ?_ ?_); rfl; conv => arg 3; whnf) | ((with_reducible refine sat_eqv ?_ ?_); rfl; conv => arg 3; whnf))
  refine sat_call (r_fixed B hB hl a4 _ s4 8 (by omega)) ?_
  rintro v H' ⟨rfl, a5, s5, rfl⟩
  (conv => arg 3; whnf); repeat (first | ((with_reducible refine sat_brT ?_ ?_); rfl; conv => arg 3; whnf) | ((with_reducible refine sat_brF ?_ ?_); rfl; conv => arg 3; whnf) | ((with_reducible refine sat_eqv ?_ ?_); rfl; conv => arg 3; whnf))
  refine sat_rngw ?_
  (conv => arg 3; whnf); repeat (first | ((with_reducible refine sat_brT ?_ ?_); rfl; conv => arg 3; whnf) | ((with_reducible refine sat_brF ?_ ?_); rfl; conv => arg 3; whnf) | ((with_reducible refine sat_eqv ?_ ?_); rfl; conv => arg 3; whnf))
  refine sat_call (r_mark B hB hl a5 _ s5) ?_
  rintro v H' ⟨rfl, a6, s6, rfl⟩
  (conv => arg 3; whnf); repeat (first | ((with_reducible refine sat_brT ?_ ?_); rfl; conv => arg 3; whnf) | ((with_reducible refine sat_brF ?_ ?_); rfl; conv => arg 3; whnf) | ((with_reducible refine sat_eqv ?_ ?_); rfl; conv => arg 3; whnf))
  refine sat_call (r_hash B hB hl a6 _ s6) ?_
  rintro v H' ⟨rfl, a7, s7, rfl⟩
  (conv => arg 3; whnf); repeat (first | ((with_reducible refine sat_brT ?_ ?_); rfl; conv => arg 3; whnf) | ((with_reducible refine sat_brF ?_ ?_); rfl; conv => arg 3; whnf) | ((with_reducible refine sat_eqv ?_ ?_); rfl; conv => arg 3; whnf))
  refine sat_call (r_count B hB hl a7 _ s7 65536 (by omega)) ?_
  rintro v H' ⟨rfl, a8, s8, rfl⟩
  (conv => arg 3; whnf); repeat (first | ((with_reducible refine sat_brT ?_ ?_); rfl; conv => arg 3; whnf) | ((with_reducible refine sat_brF ?_ ?_); rfl; conv => arg 3; whnf) | ((with_reducible refine sat_eqv ?_ ?_); rfl; conv => arg 3; whnf))
  refine sat_call (r_bytes B hB hl a8 _ s8 _ h8) ?_
  rintro v H' ⟨rfl, a9, s9, rfl⟩
  (conv => arg 3; whnf); repeat (first | ((with_reducible refine sat_brT ?_ ?_); rfl; conv => arg 3; whnf) | ((with_reducible refine sat_brF ?_ ?_); rfl; conv => arg 3; whnf) | ((with_reducible refine sat_eqv ?_ ?_); rfl; conv => arg 3; whnf))
  exact sat_ret ⟨rfl, a9, s9, rfl⟩
theorem r_entry (B : List Tr) (hB : AllB B) (hl : B.length ≤ 2 ^ 40) (at_ : Nat) (r : Rd) (hs : Sy B at_ r) : ACalls PP GG F.ref20_Reader_Entry [pt 0] [rv B at_ r.e] fun v H' =>
    v = r.entry.2.ao 1 ∧ ∃ at', Sy B at' r.entry.1 ∧ H' = [rv B at' r.entry.1.e, .row 1 r.entry.2.cmd.data] := by
  have hr : AllB r.b := by rw [← hs.eq]; exact hB.drop _
  refine K.ref20_Reader_Entry.callsC rfl ?_
  (conv => arg 3; whnf); repeat (first | ((with_reducible refine sat_brT ?_ ?_); rfl; conv => arg 3; whnf) | ((with_reducible refine sat_brF ?_ ?_); rfl; conv => arg 3; whnf) | ((with_reducible refine sat_eqv ?_ ?_); rfl; conv => arg 3; whnf))
  refine sat_call (r_fixed B hB hl at_ r hs 8 (by omega)) ?_
  rintro v H' ⟨rfl, a1, s1, rfl⟩
  (conv => arg 3; whnf); repeat (first | ((with_reducible refine sat_brT ?_ ?_); rfl; conv => arg 3; whnf) | ((with_reducible refine sat_brF ?_ ?_); rfl; conv => arg 3; whnf) | ((with_reducible refine sat_eqv ?_ ?_); rfl; conv => arg 3; whnf))
  refine sat_rngw ?_
  (conv => arg 3; whnf); repeat (first | ((with_reducible refine sat_brT ?_ ?_); rfl; conv => arg 3; whnf) | ((with_reducible refine sat_brF ?_ ?_); rfl; conv => arg 3; whnf) | ((with_reducible refine sat_eqv ?_ ?_); rfl; conv => arg 3; whnf))
  refine sat_call (r_cmd B hB hl a1 _ s1) ?_
  rintro v H' ⟨rfl, a2, s2, rfl⟩
  (conv => arg 3; whnf); repeat (first | ((with_reducible refine sat_brT ?_ ?_); rfl; conv => arg 3; whnf) | ((with_reducible refine sat_brF ?_ ?_); rfl; conv => arg 3; whnf) | ((with_reducible refine sat_eqv ?_ ?_); rfl; conv => arg 3; whnf))
  exact sat_ret ⟨rfl, a2, s2, rfl⟩
theorem r_end (B : List Tr) (at_ : Nat) (r : Rd) (hs : Sy B at_ r) : ACalls PP GG F.ref20_Reader_end [pt 0] [rv B at_ r.e] fun v H' => v = ti r.ends ∧ H' = [rv B at_ r.e] := by
  obtain ⟨b, e⟩ := r
  obtain ⟨h0, h2⟩ := hs
  have h1 : B.drop at_ = b := h0
  clear h0
  have hbl : b.length = B.length - at_ := by rw [← h1, List.length_drop]
  refine K.ref20_Reader_end.callsC rfl ?_
  by_cases he : e = 0
  · subst he
    (conv => arg 3; whnf); repeat (first | ((with_reducible refine sat_brT ?_ ?_); rfl; conv => arg 3; whnf) | ((with_reducible refine sat_brF ?_ ?_); rfl; conv => arg 3; whnf) | ((with_reducible refine sat_eqv ?_ ?_); rfl; conv => arg 3; whnf))
    refine sat_br (fun h => ?_) (fun h => ?_)
    · have h := of_decide_eq_true h
      (conv => arg 3; whnf); repeat (first | ((with_reducible refine sat_brT ?_ ?_); rfl; conv => arg 3; whnf) | ((with_reducible refine sat_brF ?_ ?_); rfl; conv => arg 3; whnf) | ((with_reducible refine sat_eqv ?_ ?_); rfl; conv => arg 3; whnf))
      have hends : Rd.ends ⟨b, 0⟩ = 5 := by unfold Rd.ends; rw [if_pos rfl, if_pos (show b.length > 0 by omega)]
      rw [hends]
      exact sat_ret ⟨rfl, rfl⟩
    · have h := of_decide_eq_false h
      (conv => arg 3; whnf); repeat (first | ((with_reducible refine sat_brT ?_ ?_); rfl; conv => arg 3; whnf) | ((with_reducible refine sat_brF ?_ ?_); rfl; conv => arg 3; whnf) | ((with_reducible refine sat_eqv ?_ ?_); rfl; conv => arg 3; whnf))
      have hends : Rd.ends ⟨b, 0⟩ = 0 := by unfold Rd.ends; rw [if_pos rfl, if_neg (show ¬ b.length > 0 by omega)]
      rw [hends]
      exact sat_ret ⟨rfl, rfl⟩
  · (conv => arg 3; whnf); repeat (first | ((with_reducible refine sat_brT ?_ ?_); rfl; conv => arg 3; whnf) | ((with_reducible refine sat_brF ?_ ?_); rfl; conv => arg 3; whnf) | ((with_reducible refine sat_eqv ?_ ?_); rfl; conv => arg 3; whnf))
    generalize hg : (e == 0) = g
    obtain rfl : g = false := by rw [← hg]; simpa using he
    (conv => arg 3; whnf); repeat (first | ((with_reducible refine sat_brT ?_ ?_); rfl; conv => arg 3; whnf) | ((with_reducible refine sat_brF ?_ ?_); rfl; conv => arg 3; whnf) | ((with_reducible refine sat_eqv ?_ ?_); rfl; conv => arg 3; whnf))
    have hends : Rd.ends ⟨b, e⟩ = e := by unfold Rd.ends; rw [if_neg he]
    rw [hends]
    exact sat_ret ⟨rfl, rfl⟩
theorem r_TakeCmd (L : List Tr) (hL : AllB L) (hl : L.length ≤ 2 ^ 40) : ACalls PP GG F.ref20_TakeCmd [.bz 1 L] [] (TakeCR (takeC L)) := by
  refine K.ref20_TakeCmd.callsC rfl ?_
  (conv => arg 3; whnf); repeat (first | ((with_reducible refine sat_brT ?_ ?_); rfl; conv => arg 3; whnf) | ((with_reducible refine sat_brF ?_ ?_); rfl; conv => arg 3; whnf) | ((with_reducible refine sat_eqv ?_ ?_); rfl; conv => arg 3; whnf))
  refine sat_call (r_cmd L hL hl 0 ⟨L, 0⟩ ⟨rfl, Nat.zero_le _⟩) ?_
  unfold takeC
  rintro v H' ⟨rfl, a1, s1, rfl⟩
  generalize (Rd.cmd ⟨L, 0⟩).1 = R at *
  generalize (Rd.cmd ⟨L, 0⟩).2 = C at *
  (conv => arg 3; whnf); repeat (first | ((with_reducible refine sat_brT ?_ ?_); rfl; conv => arg 3; whnf) | ((with_reducible refine sat_brF ?_ ?_); rfl; conv => arg 3; whnf) | ((with_reducible refine sat_eqv ?_ ?_); rfl; conv => arg 3; whnf))
  refine sat_call (r_end L a1 R s1) ?_
  rintro v H' ⟨rfl, rfl⟩
  generalize R.ends = e
  by_cases he : e = 0
  · subst he
    (conv => arg 3; whnf); repeat (first | ((with_reducible refine sat_brT ?_ ?_); rfl; conv => arg 3; whnf) | ((with_reducible refine sat_brF ?_ ?_); rfl; conv => arg 3; whnf) | ((with_reducible refine sat_eqv ?_ ?_); rfl; conv => arg 3; whnf))
    rw [if_pos rfl]
    exact sat_ret (.inl ⟨rfl, rfl, rfl⟩)
  · (conv => arg 3; whnf); repeat (first | ((with_reducible refine sat_brT ?_ ?_); rfl; conv => arg 3; whnf) | ((with_reducible refine sat_brF ?_ ?_); rfl; conv => arg 3; whnf) | ((with_reducible refine sat_eqv ?_ ?_); rfl; conv => arg 3; whnf))
    refine sat_brT (by simpa using he) ?_
    (conv => arg 3; whnf); repeat (first | ((with_reducible refine sat_brT ?_ ?_); rfl; conv => arg 3; whnf) | ((with_reducible refine sat_brF ?_ ?_); rfl; conv => arg 3; whnf) | ((with_reducible refine sat_eqv ?_ ?_); rfl; conv => arg 3; whnf))
    rw [if_neg he]
    exact sat_ret (.inr ⟨he, rfl, rfl, rfl⟩)
theorem r_TakeEntry (L : List Tr) (hL : AllB L) (hl : L.length ≤ 2 ^ 40) : ACalls PP GG F.ref20_TakeEntry [.bz 1 L] [] (TakeER (takeE L)) := by
  refine K.ref20_TakeEntry.callsC rfl ?_
  (conv => arg 3; whnf); repeat (first | ((with_reducible refine sat_brT ?_ ?_); rfl; conv => arg 3; whnf) | ((with_reducible refine sat_brF ?_ ?_); rfl; conv => arg 3; whnf) | ((with_reducible refine sat_eqv ?_ ?_); rfl; conv => arg 3; whnf))
  refine sat_call (r_entry L hL hl 0 ⟨L, 0⟩ ⟨rfl, Nat.zero_le _⟩) ?_
  unfold takeE
  rintro v H' ⟨rfl, a1, s1, rfl⟩
  generalize (Rd.entry ⟨L, 0⟩).1 = R at *
  generalize (Rd.entry ⟨L, 0⟩).2 = C at *
  (conv => arg 3; whnf); repeat (first | ((with_reducible refine sat_brT ?_ ?_); rfl; conv => arg 3; whnf) | ((with_reducible refine sat_brF ?_ ?_); rfl; conv => arg 3; whnf) | ((with_reducible refine sat_eqv ?_ ?_); rfl; conv => arg 3; whnf))
  refine sat_call (r_end L a1 R s1) ?_
  rintro v H' ⟨rfl, rfl⟩
  generalize R.ends = e
  by_cases he : e = 0
  · subst he
    (conv => arg 3; whnf); repeat (first | ((with_reducible refine sat_brT ?_ ?_); rfl; conv => arg 3; whnf) | ((with_reducible refine sat_brF ?_ ?_); rfl; conv => arg 3; whnf) | ((with_reducible refine sat_eqv ?_ ?_); rfl; conv => arg 3; whnf))
    rw [if_pos rfl]
    exact sat_ret (.inl ⟨rfl, rfl, rfl⟩)
  · (conv => arg 3; whnf); repeat (first | ((with_reducible refine sat_brT ?_ ?_); rfl; conv => arg 3; whnf) | ((with_reducible refine sat_brF ?_ ?_); rfl; conv => arg 3; whnf) | ((with_reducible refine sat_eqv ?_ ?_); rfl; conv => arg 3; whnf))
    refine sat_brT (by simpa using he) ?_
    (conv => arg 3; whnf); repeat (first | ((with_reducible refine sat_brT ?_ ?_); rfl; conv => arg 3; whnf) | ((with_reducible refine sat_brF ?_ ?_); rfl; conv => arg 3; whnf) | ((with_reducible refine sat_eqv ?_ ?_); rfl; conv => arg 3; whnf))
    rw [if_neg he]
    exact sat_ret (.inr ⟨he, rfl, rfl, rfl⟩)
end Stk
