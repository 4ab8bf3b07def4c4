/- PackCmds: commands and entries as bytes, bytes as commands and entries. -/
import Derived.Test.YtliklkagieaoeaaP10
import Derived.Test.YtliklkagieaoeaaWk
import Derived.Test.YtliklkagieaoeaaFw25
namespace Stk
open Go
set_option maxRecDepth 100000
set_option linter.unusedSimpArgs false
set_option linter.unusedVariables false
set_option maxHeartbeats 4000000
abbrev CmD : TyD := .st [.int .u8, .int .i64, .int .i64, .int .i64, .int .i64, .bool, .arr 32 (.int .u8), .sl 1 (.int .u8)]
abbrev EnD : TyD := .st [.int .i64, CmD]
abbrev Cm.t (c : Cm) (f : Bool) : Tr := .agg [u8 c.kind, i6 c.client, i6 c.seq, i6 c.node, i6 c.epoch, .bool c.yes, .arr 32 c.hash, .sl f 1 c.data]
/-- Bytes that a machine can hold, of a type's values. -/
theorem allB_of {L : List Tr} (h : ∀ y ∈ L, TrD (.int .u8) y) : AllB L := by
  intro y hy
  obtain ⟨a, rfl, w1⟩ := h y hy
  have := wf_u8 w1
  exact ⟨a, rfl, by omega, by omega⟩
theorem bytesB {x : Tr} (h : TrD (.sl 1 (.int .u8)) x) : ∃ f L, x = .sl f 1 L ∧ AllB L := by
  obtain ⟨f, L, rfl, _, h1, h2⟩ := h
  exact ⟨f, L, rfl, allB_of h2⟩
structure Cm.WB (c : Cm) : Prop where
  k : 0 ≤ c.kind ∧ c.kind ≤ 255
  h : c.hash.length = 32
  hb : AllB c.hash
  db : AllB c.data
  i : ∀ n ∈ [c.client, c.seq, c.node, c.epoch], -9223372036854775808 ≤ n ∧ n ≤ 9223372036854775807
theorem Cm.WB.ok {c : Cm} (h : c.WB) (hl : c.data.length ≤ 2 ^ 38) : c.OK := ⟨h.k, h.h, h.hb, h.db, hl⟩
theorem cm_of {x : Tr} (h : TrD CmD x) : ∃ (c : Cm) (f : Bool), x = c.t f ∧ c.WB := by
  obtain ⟨_, rfl, y0, _, rfl, ⟨k, rfl, w0⟩, y1, _, rfl, ⟨a, rfl, w1⟩, y2, _, rfl, ⟨b, rfl, w2⟩, y3, _, rfl, ⟨d, rfl, w3⟩, y4, _, rfl, ⟨e, rfl, w4⟩, y5, _, rfl, ⟨m, rfl⟩, y6, _, rfl, ⟨hs, rfl, hl, hh⟩, y7, _, rfl, ⟨f, L, rfl, _, h1, h2⟩, rfl⟩ := h
  have := wf_u8 w0
  refine ⟨⟨k, a, b, d, e, m, hs, L⟩, f, rfl, by show 0 ≤ k ∧ k ≤ 255; omega, hl, allB_of hh, allB_of h2, ?_⟩
  intro n hn
  simp only [List.mem_cons, List.not_mem_nil, or_false] at hn
  rcases hn with rfl | rfl | rfl | rfl
  · exact wf_i64 w1
  · exact wf_i64 w2
  · exact wf_i64 w3
  · exact wf_i64 w4
theorem en_of {x : Tr} (h : TrD EnD x) : ∃ (t : Int) (c : Cm) (f : Bool), x = .agg [i6 t, c.t f] ∧ c.WB ∧ -9223372036854775808 ≤ t ∧ t ≤ 9223372036854775807 := by
  obtain ⟨_, rfl, y0, _, rfl, ⟨k, rfl, w0⟩, y1, _, rfl, h1, rfl⟩ := h
  obtain ⟨c, f, rfl, hc⟩ := cm_of h1
  exact ⟨k, c, f, rfl, hc, wf_i64 w0⟩
theorem cmdB_b {c : Cm} (hc : c.OK) : AllB (cmdB c) := by
  have h1 : AllB [u8 c.kind] := AllB.cons hc.k AllB.nil
  have h2 : AllB (mkB c.yes) := by cases c.yes <;> exact AllB.cons (by decide) AllB.nil
  have hn : ∀ ns : List Int, AllB (nums ns) := by
    intro ns
    induction ns with
    | nil => exact AllB.nil
    | cons n ns ih => rw [nums_cons]; exact (leB_b _ _).append ih
  exact (((h1.append (hn _)).append h2).append hc.hb).append ((leB_b _ _).append hc.db)
theorem putC_b {c : Cm} (hc : c.OK) : AllB (putC c).1 ∧ (putC c).1.length ≤ 2 ^ 40 := by
  unfold putC
  split
  · exact ⟨AllB.nil, by simp⟩
  · refine ⟨cmdB_b hc, ?_⟩
    have := cmdB_len c hc
    have := hc.dl
    show (cmdB c).length ≤ _
    omega
theorem putE_b {x : En} (hc : x.cmd.OK) : AllB (putE x).1 ∧ (putE x).1.length ≤ 2 ^ 40 := by
  unfold putE
  split
  · exact ⟨AllB.nil, by simp⟩
  · refine ⟨(leB_b _ _).append (cmdB_b hc), ?_⟩
    have := cmdB_len x.cmd hc
    have := hc.dl
    show (num x.term ++ cmdB x.cmd).length ≤ _
    rw [List.length_append, num_len]
    omega
theorem zC_ok : zC.OK := ⟨by decide, rfl, fun y hy => ⟨0, List.eq_of_mem_replicate hy, by omega⟩, AllB.nil, by decide⟩
theorem takeC_ok {L : List Tr} (hL : AllB L) : (takeC L).1.OK := by
  unfold takeC
  split
  · exact (Rd.cmd_b (r := ⟨L, 0⟩) hL).2.1
  · exact zC_ok
theorem Rd.entry_b {r : Rd} (hr : AllB r.b) : AllB r.entry.1.b ∧ r.entry.2.cmd.OK ∧ r.entry.2.cmd.data.length ≤ 65536 ∧ r.entry.1.b.length ≤ r.b.length := by
  obtain ⟨h1, l1⟩ := Rd.num_b hr
  obtain ⟨h2, h3, h4, l2⟩ := Rd.cmd_b h1
  exact ⟨h2, h3, h4, Nat.le_trans l2 l1⟩
theorem takeE_ok {L : List Tr} (hL : AllB L) : (takeE L).1.cmd.OK := by
  unfold takeE
  split
  · exact (Rd.entry_b (r := ⟨L, 0⟩) hL).2.1
  · exact zC_ok
theorem l_cmds (x0 x1 : Tr) (h0 : TrD EnD x0) (h1 : TrD (.sl 1 (.int .u8)) x1) : ACalls PP GG F.law20_PackCmds (toAVs [x0, x1]) [] fun r _ => r = .t (.bool true) := by
  obtain ⟨t, c, f, rfl, hw, ht⟩ := en_of h0
  obtain ⟨f1, L, rfl, hL⟩ := bytesB h1
  refine K.law20_PackCmds.callsC rfl ?_
  (conv => arg 3; whnf); repeat (first | ((with_reducible refine sat_brT ?_ ?_); rfl; conv => arg 3; whnf) | ((with_reducible refine sat_brF ?_ ?_); rfl; conv => arg 3; whnf) | ((with_reducible refine sat_eqv ?_ ?_); rfl; conv => arg 3; whnf))
  refine sat_call (k_large c) ?_
  rintro r H' ⟨rfl, rfl⟩
  generalize hlg : decide ((c.data.length : Int) > 70000) = g
  cases g
  · (conv => arg 3; whnf); repeat (first | ((with_reducible refine sat_brT ?_ ?_); rfl; conv => arg 3; whnf) | ((with_reducible refine sat_brF ?_ ?_); rfl; conv => arg 3; whnf) | ((with_reducible refine sat_eqv ?_ ?_); rfl; conv => arg 3; whnf))
    refine sat_br (fun h => ?_) (fun h => ?_)
    · (conv => arg 3; whnf); repeat (first | ((with_reducible refine sat_brT ?_ ?_); rfl; conv => arg 3; whnf) | ((with_reducible refine sat_brF ?_ ?_); rfl; conv => arg 3; whnf) | ((with_reducible refine sat_eqv ?_ ?_); rfl; conv => arg 3; whnf))
      refine sat_call k_wakes ?_
      rintro r H' ⟨rfl, rfl⟩
      (conv => arg 3; whnf); repeat (first | ((with_reducible refine sat_brT ?_ ?_); rfl; conv => arg 3; whnf) | ((with_reducible refine sat_brF ?_ ?_); rfl; conv => arg 3; whnf) | ((with_reducible refine sat_eqv ?_ ?_); rfl; conv => arg 3; whnf))
      exact sat_ret rfl
    · have hlg := of_decide_eq_false hlg
      have h := of_decide_eq_false h
      have hc : c.OK := hw.ok (by omega)
      have hx : (⟨t, c⟩ : En).cmd.OK := hc
      have hLl : L.length ≤ 70000 := by omega
      obtain ⟨hpC, lpC⟩ := putC_b hc
      obtain ⟨hpE, lpE⟩ := putE_b (x := ⟨t, c⟩) hx
      have hcT := takeC_ok hL
      have heT := takeE_ok hL
      (conv => arg 3; whnf); repeat (first | ((with_reducible refine sat_brT ?_ ?_); rfl; conv => arg 3; whnf) | ((with_reducible refine sat_brF ?_ ?_); rfl; conv => arg 3; whnf) | ((with_reducible refine sat_eqv ?_ ?_); rfl; conv => arg 3; whnf))
      refine sat_any ?_ ?_
      all_goals
        (conv => arg 3; whnf); repeat (first | ((with_reducible refine sat_brT ?_ ?_); rfl; conv => arg 3; whnf) | ((with_reducible refine sat_brF ?_ ?_); rfl; conv => arg 3; whnf) | ((with_reducible refine sat_eqv ?_ ?_); rfl; conv => arg 3; whnf))
        refine sat_call (r_ownC c hc) ?_
        rintro r H' ⟨rfl, rfl⟩
        (conv => arg 3; whnf); repeat (first | ((with_reducible refine sat_brT ?_ ?_); rfl; conv => arg 3; whnf) | ((with_reducible refine sat_brF ?_ ?_); rfl; conv => arg 3; whnf) | ((with_reducible refine sat_eqv ?_ ?_); rfl; conv => arg 3; whnf))
        try rw [List.drop_zero, List.take_length]
        refine sat_call (k_PutCmd c hc) ?_
        rintro r H' ⟨cap, rfl, rfl⟩
        (conv => arg 3; whnf); repeat (first | ((with_reducible refine sat_brT ?_ ?_); rfl; conv => arg 3; whnf) | ((with_reducible refine sat_brF ?_ ?_); rfl; conv => arg 3; whnf) | ((with_reducible refine sat_eqv ?_ ?_); rfl; conv => arg 3; whnf))
        refine sat_call (r_PutCmd c hc) ?_
        rintro r H' ⟨cap2, rfl, rfl⟩
        (conv => arg 3; whnf); repeat (first | ((with_reducible refine sat_brT ?_ ?_); rfl; conv => arg 3; whnf) | ((with_reducible refine sat_brF ?_ ?_); rfl; conv => arg 3; whnf) | ((with_reducible refine sat_eqv ?_ ?_); rfl; conv => arg 3; whnf))
        try rw [List.drop_zero, List.take_length]
        refine sat_call (k_PutEntry ⟨t, c⟩ hx) ?_
        rintro r H' ⟨cap3, rfl, rfl⟩
        (conv => arg 3; whnf); repeat (first | ((with_reducible refine sat_brT ?_ ?_); rfl; conv => arg 3; whnf) | ((with_reducible refine sat_brF ?_ ?_); rfl; conv => arg 3; whnf) | ((with_reducible refine sat_eqv ?_ ?_); rfl; conv => arg 3; whnf))
        refine sat_call (r_PutEntry ⟨t, c⟩ hx) ?_
        rintro r H' ⟨cap4, rfl, rfl⟩
        (conv => arg 3; whnf); repeat (first | ((with_reducible refine sat_brT ?_ ?_); rfl; conv => arg 3; whnf) | ((with_reducible refine sat_brF ?_ ?_); rfl; conv => arg 3; whnf) | ((with_reducible refine sat_eqv ?_ ?_); rfl; conv => arg 3; whnf))
        repeat (refine sat_brF (by simp; done) ?_; (conv => arg 3; whnf); repeat (first | ((with_reducible refine sat_brT ?_ ?_); rfl; conv => arg 3; whnf) | ((with_reducible refine sat_brF ?_ ?_); rfl; conv => arg 3; whnf) | ((with_reducible refine sat_eqv ?_ ?_); rfl; conv => arg 3; whnf)))
        try rw [List.drop_zero, List.take_length]
        refine sat_call (r_sameB _ _ hpC hpC (by omega)) ?_
        rintro r H' ⟨q, rfl, hq, rfl⟩
        obtain rfl := hq.2 rfl
        clear hq
        (conv => arg 3; whnf); repeat (first | ((with_reducible refine sat_brT ?_ ?_); rfl; conv => arg 3; whnf) | ((with_reducible refine sat_brF ?_ ?_); rfl; conv => arg 3; whnf) | ((with_reducible refine sat_eqv ?_ ?_); rfl; conv => arg 3; whnf))
        try rw [List.drop_zero, List.take_length]
        refine sat_call (r_sameB _ _ hpE hpE (by omega)) ?_
        rintro r H' ⟨q, rfl, hq, rfl⟩
        obtain rfl := hq.2 rfl
        clear hq
        (conv => arg 3; whnf); repeat (first | ((with_reducible refine sat_brT ?_ ?_); rfl; conv => arg 3; whnf) | ((with_reducible refine sat_brF ?_ ?_); rfl; conv => arg 3; whnf) | ((with_reducible refine sat_eqv ?_ ?_); rfl; conv => arg 3; whnf))
        refine sat_call (k_spoil _ hpC (by omega) cap) ?_
        rintro r H' ⟨rfl, rfl⟩
        (conv => arg 3; whnf); repeat (first | ((with_reducible refine sat_brT ?_ ?_); rfl; conv => arg 3; whnf) | ((with_reducible refine sat_brF ?_ ?_); rfl; conv => arg 3; whnf) | ((with_reducible refine sat_eqv ?_ ?_); rfl; conv => arg 3; whnf))
        refine sat_call (k_spoil _ hpE (by omega) cap3) ?_
        rintro r H' ⟨rfl, rfl⟩
        (conv => arg 3; whnf); repeat (first | ((with_reducible refine sat_brT ?_ ?_); rfl; conv => arg 3; whnf) | ((with_reducible refine sat_brF ?_ ?_); rfl; conv => arg 3; whnf) | ((with_reducible refine sat_eqv ?_ ?_); rfl; conv => arg 3; whnf))
        try rw [List.drop_zero, List.take_length]
        refine sat_call (r_sameE ⟨t, c⟩ ⟨t, c⟩ hx hx) ?_
        rintro r H' ⟨q, rfl, hq, rfl⟩
        obtain rfl := hq.2 rfl
        clear hq
        (conv => arg 3; whnf); repeat (first | ((with_reducible refine sat_brT ?_ ?_); rfl; conv => arg 3; whnf) | ((with_reducible refine sat_brF ?_ ?_); rfl; conv => arg 3; whnf) | ((with_reducible refine sat_eqv ?_ ?_); rfl; conv => arg 3; whnf))
        refine sat_asrt (by simp [roomy]; omega) ?_
        (conv => arg 3; whnf); repeat (first | ((with_reducible refine sat_brT ?_ ?_); rfl; conv => arg 3; whnf) | ((with_reducible refine sat_brF ?_ ?_); rfl; conv => arg 3; whnf) | ((with_reducible refine sat_eqv ?_ ?_); rfl; conv => arg 3; whnf))
        rw [List.drop_zero, List.take_length]
        refine sat_call (k_TakeCmd L hL) ?_
        rintro r H' (⟨hC, rfl, rfl⟩ | ⟨hC, hC2, rfl, rfl⟩)
        all_goals
          (conv => arg 3; whnf); repeat (first | ((with_reducible refine sat_brT ?_ ?_); rfl; conv => arg 3; whnf) | ((with_reducible refine sat_brF ?_ ?_); rfl; conv => arg 3; whnf) | ((with_reducible refine sat_eqv ?_ ?_); rfl; conv => arg 3; whnf))
          refine sat_call (r_TakeCmd L hL (by omega)) ?_
          rintro r H' (⟨hC', rfl, rfl⟩ | ⟨hC', hC2', rfl, rfl⟩)
          all_goals first | exact absurd hC hC' | exact absurd hC' hC | skip
          (conv => arg 3; whnf); repeat (first | ((with_reducible refine sat_brT ?_ ?_); rfl; conv => arg 3; whnf) | ((with_reducible refine sat_brF ?_ ?_); rfl; conv => arg 3; whnf) | ((with_reducible refine sat_eqv ?_ ?_); rfl; conv => arg 3; whnf))
          rw [List.drop_zero, List.take_length]
          refine sat_call (k_TakeEntry L hL) ?_
          rintro r H' (⟨hE, rfl, rfl⟩ | ⟨hE, hE2, rfl, rfl⟩)
          all_goals
            (conv => arg 3; whnf); repeat (first | ((with_reducible refine sat_brT ?_ ?_); rfl; conv => arg 3; whnf) | ((with_reducible refine sat_brF ?_ ?_); rfl; conv => arg 3; whnf) | ((with_reducible refine sat_eqv ?_ ?_); rfl; conv => arg 3; whnf))
            refine sat_call (r_TakeEntry L hL (by omega)) ?_
            rintro r H' (⟨hE', rfl, rfl⟩ | ⟨hE', hE2', rfl, rfl⟩)
            all_goals first | exact absurd hE hE' | exact absurd hE' hE | skip
            (conv => arg 3; whnf); repeat (first | ((with_reducible refine sat_brT ?_ ?_); rfl; conv => arg 3; whnf) | ((with_reducible refine sat_brF ?_ ?_); rfl; conv => arg 3; whnf) | ((with_reducible refine sat_eqv ?_ ?_); rfl; conv => arg 3; whnf))
            rw [List.drop_zero, List.take_length]
            refine sat_call (r_sameB L L hL hL (by omega)) ?_
            rintro r H' ⟨q, rfl, hq, rfl⟩
            obtain rfl := hq.2 rfl
            clear hq
            (conv => arg 3; whnf); repeat (first | ((with_reducible refine sat_brT ?_ ?_); rfl; conv => arg 3; whnf) | ((with_reducible refine sat_brF ?_ ?_); rfl; conv => arg 3; whnf) | ((with_reducible refine sat_eqv ?_ ?_); rfl; conv => arg 3; whnf))
            refine sat_call (k_spoil L hL (by omega) none) ?_
            rintro r H' ⟨rfl, rfl⟩
            (conv => arg 3; whnf); repeat (first | ((with_reducible refine sat_brT ?_ ?_); rfl; conv => arg 3; whnf) | ((with_reducible refine sat_brF ?_ ?_); rfl; conv => arg 3; whnf) | ((with_reducible refine sat_eqv ?_ ?_); rfl; conv => arg 3; whnf))
            repeat (refine sat_brT (by simp; done) ?_; (conv => arg 3; whnf); repeat (first | ((with_reducible refine sat_brT ?_ ?_); rfl; conv => arg 3; whnf) | ((with_reducible refine sat_brF ?_ ?_); rfl; conv => arg 3; whnf) | ((with_reducible refine sat_eqv ?_ ?_); rfl; conv => arg 3; whnf)))
            try rw [List.drop_zero, List.take_length]
            first | (with_reducible refine sat_call (r_sameC (takeC L).1 (takeC L).1 hcT hcT) ?_) | refine sat_call (r_sameC zC zC zC_ok zC_ok) ?_ | refine sat_call (r_sameC (takeC L).1 (takeC L).1 hcT hcT) ?_
            rintro r H' ⟨q, rfl, hq, rfl⟩
            obtain rfl := hq.2 rfl
            clear hq
            (conv => arg 3; whnf); repeat (first | ((with_reducible refine sat_brT ?_ ?_); rfl; conv => arg 3; whnf) | ((with_reducible refine sat_brF ?_ ?_); rfl; conv => arg 3; whnf) | ((with_reducible refine sat_eqv ?_ ?_); rfl; conv => arg 3; whnf))
            try rw [List.drop_zero, List.take_length]
            first | refine sat_call (r_sameE zE zE zC_ok zC_ok) ?_ | refine sat_call (r_sameE (takeE L).1 (takeE L).1 heT heT) ?_
            rintro r H' ⟨q, rfl, hq, rfl⟩
            obtain rfl := hq.2 rfl
            clear hq
            (conv => arg 3; whnf); repeat (first | ((with_reducible refine sat_brT ?_ ?_); rfl; conv => arg 3; whnf) | ((with_reducible refine sat_brF ?_ ?_); rfl; conv => arg 3; whnf) | ((with_reducible refine sat_eqv ?_ ?_); rfl; conv => arg 3; whnf))
            refine sat_call k_wakes ?_
            rintro r H' ⟨rfl, rfl⟩
            (conv => arg 3; whnf); repeat (first | ((with_reducible refine sat_brT ?_ ?_); rfl; conv => arg 3; whnf) | ((with_reducible refine sat_brF ?_ ?_); rfl; conv => arg 3; whnf) | ((with_reducible refine sat_eqv ?_ ?_); rfl; conv => arg 3; whnf))
            exact sat_ret rfl
  · (conv => arg 3; whnf); repeat (first | ((with_reducible refine sat_brT ?_ ?_); rfl; conv => arg 3; whnf) | ((with_reducible refine sat_brF ?_ ?_); rfl; conv => arg 3; whnf) | ((with_reducible refine sat_eqv ?_ ?_); rfl; conv => arg 3; whnf))
    refine sat_call k_wakes ?_
    rintro r H' ⟨rfl, rfl⟩
    (conv => arg 3; whnf); repeat (first | ((with_reducible refine sat_brT ?_ ?_); rfl; conv => arg 3; whnf) | ((with_reducible refine sat_brF ?_ ?_); rfl; conv => arg 3; whnf) | ((with_reducible refine sat_eqv ?_ ?_); rfl; conv => arg 3; whnf))
    exact sat_ret rfl
end Stk
