/- The reader: commands and entries. -/
import Derived.Test.YtliklkagieaoeaaP5
namespace Stk
open Go
set_option maxRecDepth 100000
set_option linter.unusedSimpArgs false
set_option linter.unusedVariables false
set_option maxHeartbeats 4000000
theorem Rd.num_b {r : Rd} (h : AllB r.b) : AllB r.num.1.b ∧ r.num.1.b.length ≤ r.b.length := ⟨(Rd.fixed_b h 8 (by omega)).1, (Rd.fixed_b h 8 (by omega)).2.2⟩
theorem Rd.data_b {r : Rd} (h : AllB r.b) : AllB r.data.1.b ∧ AllB r.data.2 ∧ r.data.2.length ≤ 65536 ∧ r.data.1.b.length ≤ r.b.length := by
  obtain ⟨c1, c2, c3⟩ := Rd.count_b h 65536
  obtain ⟨t1, t2, t3, t4⟩ := Rd.take_b c1 (r.count 65536).2
  exact ⟨t1, t2, Nat.le_trans t3 c2, Nat.le_trans t4 c3⟩
def Rd.four (r : Rd) : Rd := r.num.1.num.1.num.1.num.1
def Rd.cmd (r : Rd) : Rd × Cm :=
  ((r.fixed 1).1.four.mark.1.hash.1.data.1,
    { kind := IntKind.wrap .u8 (r.fixed 1).2, client := (r.fixed 1).1.num.2, seq := (r.fixed 1).1.num.1.num.2, node := (r.fixed 1).1.num.1.num.1.num.2, epoch := (r.fixed 1).1.num.1.num.1.num.1.num.2
      yes := (r.fixed 1).1.four.mark.2, hash := (r.fixed 1).1.four.mark.1.hash.2, data := (r.fixed 1).1.four.mark.1.hash.1.data.2 })
abbrev Cm.ao (c : Cm) (b : Nat) : AV := .agg [.t (u8 c.kind), ti c.client, ti c.seq, ti c.node, ti c.epoch, tb c.yes, .t (.arr 32 c.hash), .sl b 0 [] 0 c.data.length none]
theorem k_cmd (r : Rd) (hr : AllB r.b) : ACalls PP GG F.pack_reader_cmd [pt 0] [r.v] fun v H' => v = r.cmd.2.ao 1 ∧ H' = [r.cmd.1.v, .row 1 r.cmd.2.data] := by
  have h1 := (Rd.fixed_b hr 1 (by omega)).1
  have h2 := (Rd.num_b h1).1
  have h3 := (Rd.num_b h2).1
  have h4 := (Rd.num_b h3).1
  have h5 := (Rd.num_b h4).1
  have h6 := (Rd.mark_b h5).1
  have h7 := (Rd.hash_b h6).1
  refine K.pack_reader_cmd.callsC rfl ?_
  (conv => arg 3; whnf); repeat (first | ((with_reducible refine sat_brT ?_ ?_); rfl; conv => arg 3; whnf) | ((with_reducible refine sat_brF ?_ ?_); rfl; conv => arg 3; whnf) | ((with_reducible refine sat_eqv ?_ ?_); rfl; conv => arg 3; whnf))
  refine sat_call (k_rfixed r hr 1 (by omega)) ?_
  rintro v H' ⟨rfl, rfl⟩
  (conv => arg 3; whnf); repeat (first | ((with_reducible refine sat_brT ?_ ?_); rfl; conv => arg 3; whnf) | ((with_reducible refine sat_brF ?_ ?_); rfl; conv => arg 3; whnf) | ((with_reducible refine sat_eqv ?_ ?_); rfl; conv => arg 3; whnf))
  refine sat_rngw ?_
  (conv => arg 3; whnf); repeat (first | ((with_reducible refine sat_brT ?_ ?_); rfl; conv => arg 3; whnf) | ((with_reducible refine sat_brF ?_ ?_); rfl; conv => arg 3; whnf) | ((with_reducible refine sat_eqv ?_ ?_); rfl; conv => arg 3; whnf))
  refine sat_call (k_num4 (r.fixed 1).1 h1 (IntKind.wrap .u8 (r.fixed 1).2)) ?_
  rintro v H' ⟨rfl, rfl⟩
  (conv => arg 3; whnf); repeat (first | ((with_reducible refine sat_brT ?_ ?_); rfl; conv => arg 3; whnf) | ((with_reducible refine sat_brF ?_ ?_); rfl; conv => arg 3; whnf) | ((with_reducible refine sat_eqv ?_ ?_); rfl; conv => arg 3; whnf))
  refine sat_call (k_rmk _ h5) ?_
  rintro v H' ⟨rfl, rfl⟩
  (conv => arg 3; whnf); repeat (first | ((with_reducible refine sat_brT ?_ ?_); rfl; conv => arg 3; whnf) | ((with_reducible refine sat_brF ?_ ?_); rfl; conv => arg 3; whnf) | ((with_reducible refine sat_eqv ?_ ?_); rfl; conv => arg 3; whnf))
  refine sat_call (k_rhash _ h6) ?_
  rintro v H' ⟨rfl, rfl⟩
  (conv => arg 3; whnf); repeat (first | ((with_reducible refine sat_brT ?_ ?_); rfl; conv => arg 3; whnf) | ((with_reducible refine sat_brF ?_ ?_); rfl; conv => arg 3; whnf) | ((with_reducible refine sat_eqv ?_ ?_); rfl; conv => arg 3; whnf))
  refine sat_call (k_rdata _ h7) ?_
  rintro v H' ⟨rfl, rfl⟩
  (conv => arg 3; whnf); repeat (first | ((with_reducible refine sat_brT ?_ ?_); rfl; conv => arg 3; whnf) | ((with_reducible refine sat_brF ?_ ?_); rfl; conv => arg 3; whnf) | ((with_reducible refine sat_eqv ?_ ?_); rfl; conv => arg 3; whnf))
  exact sat_ret ⟨rfl, rfl⟩
theorem wrap8 (n : Int) : 0 ≤ IntKind.wrap .u8 n ∧ IntKind.wrap .u8 n ≤ 255 := by rw [IntKind.wrap_u8]; omega
theorem Rd.cmd_b {r : Rd} (hr : AllB r.b) : AllB r.cmd.1.b ∧ r.cmd.2.OK ∧ r.cmd.2.data.length ≤ 65536 ∧ r.cmd.1.b.length ≤ r.b.length := by
  obtain ⟨h1, -, l1⟩ := Rd.fixed_b hr 1 (by omega)
  obtain ⟨h2, l2⟩ := Rd.num_b h1
  obtain ⟨h3, l3⟩ := Rd.num_b h2
  obtain ⟨h4, l4⟩ := Rd.num_b h3
  obtain ⟨h5, l5⟩ := Rd.num_b h4
  obtain ⟨h6, l6⟩ := Rd.mark_b h5
  obtain ⟨h7, g7, g7', l7⟩ := Rd.hash_b h6
  obtain ⟨h8, g8, g8', l8⟩ := Rd.data_b h7
  exact ⟨h8, ⟨wrap8 _, g7', g7, g8, Nat.le_trans g8' (by omega)⟩, g8', Nat.le_trans l8 (Nat.le_trans l7 (Nat.le_trans l6 (Nat.le_trans l5 (Nat.le_trans l4 (Nat.le_trans l3 (Nat.le_trans l2 l1))))))⟩
def Rd.entry (r : Rd) : Rd × En := (r.num.1.cmd.1, ⟨r.num.2, r.num.1.cmd.2⟩)
abbrev En.ao (x : En) (b : Nat) : AV := .agg [ti x.term, x.cmd.ao b]
theorem k_entry (r : Rd) (hr : AllB r.b) : ACalls PP GG F.pack_reader_entry [pt 0] [r.v] fun v H' => v = r.entry.2.ao 1 ∧ H' = [r.entry.1.v, .row 1 r.entry.2.cmd.data] := by
  have h1 := (Rd.num_b hr).1
  refine K.pack_reader_entry.callsC rfl ?_
  (conv => arg 3; whnf); repeat (first | ((with_reducible refine sat_brT ?_ ?_); rfl; conv => arg 3; whnf) | ((with_reducible refine sat_brF ?_ ?_); rfl; conv => arg 3; whnf) | ((with_reducible refine sat_eqv ?_ ?_); rfl; conv => arg 3; whnf))
  refine sat_call (k_rnum r hr) ?_
  rintro v H' ⟨rfl, rfl⟩
  (conv => arg 3; whnf); repeat (first | ((with_reducible refine sat_brT ?_ ?_); rfl; conv => arg 3; whnf) | ((with_reducible refine sat_brF ?_ ?_); rfl; conv => arg 3; whnf) | ((with_reducible refine sat_eqv ?_ ?_); rfl; conv => arg 3; whnf))
  refine sat_call (k_cmd _ h1) ?_
  rintro v H' ⟨rfl, rfl⟩
  (conv => arg 3; whnf); repeat (first | ((with_reducible refine sat_brT ?_ ?_); rfl; conv => arg 3; whnf) | ((with_reducible refine sat_brF ?_ ?_); rfl; conv => arg 3; whnf) | ((with_reducible refine sat_eqv ?_ ?_); rfl; conv => arg 3; whnf))
  exact sat_ret ⟨rfl, rfl⟩
def zC : Cm := ⟨0, 0, 0, 0, 0, false, z32, []⟩
abbrev zCt : Tr := .agg [u8 0, i6 0, i6 0, i6 0, i6 0, .bool false, .arr 32 z32, .sl true 1 []]
def Rd.ends (r : Rd) : Int := if r.e = 0 then (if r.b.length > 0 then 5 else 0) else r.e
def takeC (L : List Tr) : Cm × Int := if (Rd.cmd ⟨L, 0⟩).1.ends = 0 then ((Rd.cmd ⟨L, 0⟩).2, 0) else (zC, (Rd.cmd ⟨L, 0⟩).1.ends)
abbrev TakeCR (p : Cm × Int) (r : AV) (H' : Hp) : Prop := (p.2 = 0 ∧ r = .tup [p.1.ao 0, ti 0] ∧ H' = [.row 1 p.1.data]) ∨ (p.2 ≠ 0 ∧ p.1 = zC ∧ r = .tup [.t zCt, ti p.2] ∧ H' = [])
theorem k_wholeC (L : List Tr) (hL : AllB L) : ACalls PP GG F.pack_whole_api_Cmd [.bz 1 L, .fn F.pack_reader_cmd [] []] [] (TakeCR (takeC L)) := by
  refine K.pack_whole_api_Cmd.callsC rfl ?_
  (conv => arg 3; whnf); repeat (first | ((with_reducible refine sat_brT ?_ ?_); rfl; conv => arg 3; whnf) | ((with_reducible refine sat_brF ?_ ?_); rfl; conv => arg 3; whnf) | ((with_reducible refine sat_eqv ?_ ?_); rfl; conv => arg 3; whnf))
  refine sat_call (k_cmd ⟨L, 0⟩ hL) ?_
  unfold takeC
  rintro v H' ⟨rfl, rfl⟩
  generalize (Rd.cmd ⟨L, 0⟩).1 = R
  generalize (Rd.cmd ⟨L, 0⟩).2 = C
  obtain ⟨b, e⟩ := R
  by_cases he : e = 0
  · subst he
    (conv => arg 3; whnf); repeat (first | ((with_reducible refine sat_brT ?_ ?_); rfl; conv => arg 3; whnf) | ((with_reducible refine sat_brF ?_ ?_); rfl; conv => arg 3; whnf) | ((with_reducible refine sat_eqv ?_ ?_); rfl; conv => arg 3; whnf))
    refine sat_br (fun h => ?_) (fun h => ?_)
    · have h : (b.length : Int) > 0 := of_decide_eq_true h
      (conv => arg 3; whnf); repeat (first | ((with_reducible refine sat_brT ?_ ?_); rfl; conv => arg 3; whnf) | ((with_reducible refine sat_brF ?_ ?_); rfl; conv => arg 3; whnf) | ((with_reducible refine sat_eqv ?_ ?_); rfl; conv => arg 3; whnf))
      have hends : Rd.ends ⟨b, 0⟩ = 5 := by unfold Rd.ends; rw [if_pos rfl, if_pos (show b.length > 0 by omega)]
      rw [hends, if_neg (by decide)]
      exact sat_ret (.inr ⟨by decide, rfl, rfl, rfl⟩)
    · have h : ¬ (b.length : Int) > 0 := of_decide_eq_false h
      (conv => arg 3; whnf); repeat (first | ((with_reducible refine sat_brT ?_ ?_); rfl; conv => arg 3; whnf) | ((with_reducible refine sat_brF ?_ ?_); rfl; conv => arg 3; whnf) | ((with_reducible refine sat_eqv ?_ ?_); rfl; conv => arg 3; whnf))
      have hends : Rd.ends ⟨b, 0⟩ = 0 := by unfold Rd.ends; rw [if_pos rfl, if_neg (show ¬ b.length > 0 by omega)]
      rw [hends, if_pos rfl]
      exact sat_ret (.inl ⟨rfl, rfl, rfl⟩)
  · (conv => arg 3; whnf); repeat (first | ((with_reducible refine sat_brT ?_ ?_); rfl; conv => arg 3; whnf) | ((with_reducible refine sat_brF ?_ ?_); rfl; conv => arg 3; whnf) | ((with_reducible refine sat_eqv ?_ ?_); rfl; conv => arg 3; whnf))
    generalize hg : (e == 0) = g
    obtain rfl : g = false := by rw [← hg]; simpa using he
    (conv => arg 3; whnf); repeat (first | ((with_reducible refine sat_brT ?_ ?_); rfl; conv => arg 3; whnf) | ((with_reducible refine sat_brF ?_ ?_); rfl; conv => arg 3; whnf) | ((with_reducible refine sat_eqv ?_ ?_); rfl; conv => arg 3; whnf))
    refine sat_brT (by simpa using he) ?_
    (conv => arg 3; whnf); repeat (first | ((with_reducible refine sat_brT ?_ ?_); rfl; conv => arg 3; whnf) | ((with_reducible refine sat_brF ?_ ?_); rfl; conv => arg 3; whnf) | ((with_reducible refine sat_eqv ?_ ?_); rfl; conv => arg 3; whnf))
    have hends : Rd.ends ⟨b, e⟩ = e := by unfold Rd.ends; rw [if_neg he]
    rw [hends, if_neg he]
    exact sat_ret (.inr ⟨he, rfl, rfl, rfl⟩)
theorem k_TakeCmd (L : List Tr) (hL : AllB L) : ACalls PP GG F.pack_TakeCmd [.bz 1 L] [] (TakeCR (takeC L)) := by
  refine K.pack_TakeCmd.callsC rfl ?_
  (conv => arg 3; whnf); repeat (first | ((with_reducible refine sat_brT ?_ ?_); rfl; conv => arg 3; whnf) | ((with_reducible refine sat_brF ?_ ?_); rfl; conv => arg 3; whnf) | ((with_reducible refine sat_eqv ?_ ?_); rfl; conv => arg 3; whnf))
  refine sat_call (k_wholeC L hL) ?_
  generalize takeC L = p
  rintro v H' (⟨h, rfl, rfl⟩ | ⟨h, h2, rfl, rfl⟩)
  · (conv => arg 3; whnf); repeat (first | ((with_reducible refine sat_brT ?_ ?_); rfl; conv => arg 3; whnf) | ((with_reducible refine sat_brF ?_ ?_); rfl; conv => arg 3; whnf) | ((with_reducible refine sat_eqv ?_ ?_); rfl; conv => arg 3; whnf))
    exact sat_ret (.inl ⟨h, rfl, rfl⟩)
  · (conv => arg 3; whnf); repeat (first | ((with_reducible refine sat_brT ?_ ?_); rfl; conv => arg 3; whnf) | ((with_reducible refine sat_brF ?_ ?_); rfl; conv => arg 3; whnf) | ((with_reducible refine sat_eqv ?_ ?_); rfl; conv => arg 3; whnf))
    exact sat_ret (.inr ⟨h, h2, rfl, rfl⟩)
def zE : En := ⟨0, zC⟩
abbrev zEt : Tr := .agg [i6 0, zCt]
def takeE (L : List Tr) : En × Int := if (Rd.entry ⟨L, 0⟩).1.ends = 0 then ((Rd.entry ⟨L, 0⟩).2, 0) else (zE, (Rd.entry ⟨L, 0⟩).1.ends)
abbrev TakeER (p : En × Int) (r : AV) (H' : Hp) : Prop := (p.2 = 0 ∧ r = .tup [p.1.ao 0, ti 0] ∧ H' = [.row 1 p.1.cmd.data]) ∨ (p.2 ≠ 0 ∧ p.1 = zE ∧ r = .tup [.t zEt, ti p.2] ∧ H' = [])
theorem k_wholeE (L : List Tr) (hL : AllB L) : ACalls PP GG F.pack_whole_api_Entry [.bz 1 L, .fn F.pack_reader_entry [] []] [] (TakeER (takeE L)) := by
  refine K.pack_whole_api_Entry.callsC rfl ?_
  (conv => arg 3; whnf); repeat (first | ((with_reducible refine sat_brT ?_ ?_); rfl; conv => arg 3; whnf) | ((with_reducible refine sat_brF ?_ ?_); rfl; conv => arg 3; whnf) | ((with_reducible refine sat_eqv ?_ ?_); rfl; conv => arg 3; whnf))
  refine sat_call (k_entry ⟨L, 0⟩ hL) ?_
  unfold takeE
  rintro v H' ⟨rfl, rfl⟩
  generalize (Rd.entry ⟨L, 0⟩).1 = R
  generalize (Rd.entry ⟨L, 0⟩).2 = C
  obtain ⟨b, e⟩ := R
  by_cases he : e = 0
  · subst he
    (conv => arg 3; whnf); repeat (first | ((with_reducible refine sat_brT ?_ ?_); rfl; conv => arg 3; whnf) | ((with_reducible refine sat_brF ?_ ?_); rfl; conv => arg 3; whnf) | ((with_reducible refine sat_eqv ?_ ?_); rfl; conv => arg 3; whnf))
    refine sat_br (fun h => ?_) (fun h => ?_)
    · have h : (b.length : Int) > 0 := of_decide_eq_true h
      (conv => arg 3; whnf); repeat (first | ((with_reducible refine sat_brT ?_ ?_); rfl; conv => arg 3; whnf) | ((with_reducible refine sat_brF ?_ ?_); rfl; conv => arg 3; whnf) | ((with_reducible refine sat_eqv ?_ ?_); rfl; conv => arg 3; whnf))
      have hends : Rd.ends ⟨b, 0⟩ = 5 := by unfold Rd.ends; rw [if_pos rfl, if_pos (show b.length > 0 by omega)]
      rw [hends, if_neg (by decide)]
      exact sat_ret (.inr ⟨by decide, rfl, rfl, rfl⟩)
    · have h : ¬ (b.length : Int) > 0 := of_decide_eq_false h
      (conv => arg 3; whnf); repeat (first | ((with_reducible refine sat_brT ?_ ?_); rfl; conv => arg 3; whnf) | ((with_reducible refine sat_brF ?_ ?_); rfl; conv => arg 3; whnf) | ((with_reducible refine sat_eqv ?_ ?_); rfl; conv => arg 3; whnf))
      have hends : Rd.ends ⟨b, 0⟩ = 0 := by unfold Rd.ends; rw [if_pos rfl, if_neg (show ¬ b.length > 0 by omega)]
      rw [hends, if_pos rfl]
      exact sat_ret (.inl ⟨rfl, rfl, rfl⟩)
  · (conv => arg 3; whnf); repeat (first | ((with_reducible refine sat_brT ?_ ?_); rfl; conv => arg 3; whnf) | ((with_reducible refine sat_brF ?_ ?_); rfl; conv => arg 3; whnf) | ((with_reducible refine sat_eqv ?_ ?_); rfl; conv => arg 3; whnf))
    generalize hg : (e == 0) = g
    obtain rfl : g = false := by rw [← hg]; simpa using he
    (conv => arg 3; whnf); repeat (first | ((with_reducible refine sat_brT ?_ ?_); rfl; conv => arg 3; whnf) | ((with_reducible refine sat_brF ?_ ?_); rfl; conv => arg 3; whnf) | ((with_reducible refine sat_eqv ?_ ?_); rfl; conv => arg 3; whnf))
    refine sat_brT (by simpa using he) ?_
    (conv => arg 3; whnf); repeat (first | ((with_reducible refine sat_brT ?_ ?_); rfl; conv => arg 3; whnf) | ((with_reducible refine sat_brF ?_ ?_); rfl; conv => arg 3; whnf) | ((with_reducible refine sat_eqv ?_ ?_); rfl; conv => arg 3; whnf))
    have hends : Rd.ends ⟨b, e⟩ = e := by unfold Rd.ends; rw [if_neg he]
    rw [hends, if_neg he]
    exact sat_ret (.inr ⟨he, rfl, rfl, rfl⟩)
theorem k_TakeEntry (L : List Tr) (hL : AllB L) : ACalls PP GG F.pack_TakeEntry [.bz 1 L] [] (TakeER (takeE L)) := by
  refine K.pack_TakeEntry.callsC rfl ?_
  (conv => arg 3; whnf); repeat (first | ((with_reducible refine sat_brT ?_ ?_); rfl; conv => arg 3; whnf) | ((with_reducible refine sat_brF ?_ ?_); rfl; conv => arg 3; whnf) | ((with_reducible refine sat_eqv ?_ ?_); rfl; conv => arg 3; whnf))
  refine sat_call (k_wholeE L hL) ?_
  generalize takeE L = p
  rintro v H' (⟨h, rfl, rfl⟩ | ⟨h, h2, rfl, rfl⟩)
  · (conv => arg 3; whnf); repeat (first | ((with_reducible refine sat_brT ?_ ?_); rfl; conv => arg 3; whnf) | ((with_reducible refine sat_brF ?_ ?_); rfl; conv => arg 3; whnf) | ((with_reducible refine sat_eqv ?_ ?_); rfl; conv => arg 3; whnf))
    exact sat_ret (.inl ⟨h, rfl, rfl⟩)
  · (conv => arg 3; whnf); repeat (first | ((with_reducible refine sat_brT ?_ ?_); rfl; conv => arg 3; whnf) | ((with_reducible refine sat_brF ?_ ?_); rfl; conv => arg 3; whnf) | ((with_reducible refine sat_eqv ?_ ?_); rfl; conv => arg 3; whnf))
    exact sat_ret (.inr ⟨h, h2, rfl, rfl⟩)
end Stk
